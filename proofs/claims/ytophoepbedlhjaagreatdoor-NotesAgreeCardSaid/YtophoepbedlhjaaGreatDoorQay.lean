/- Reading notes, plain: what a text is read as. -/
import Derived.Test.YtophoepbedlhjaaGreatDoorQax
import Derived.Test.YtophoepbedlhjaaGreatDoorQaw
import Derived.Test.YtophoepbedlhjaaGreatDoorQav
set_option linter.unusedSimpArgs false
set_option linter.unusedVariables false
-- NEWM
namespace Go.Proofs.YtophoepbedlhjaaGreatDoor
open Go Go.RowKit
set_option maxRecDepth 100000
abbrev ky (x:Nt):List UInt8 × Int:=(x.st,x.no)
def badO:Option Nt→Nt→Bool
 | none,_=>false
 | some q,x=>decide (0≤cmpNt q x)
def chkA:Option Nt→List Nt→Int
 | _,[]=>0
 | p,x :: l=>if ntF x≠0 then ntF x else if badO p x=true then 7 else chkA (some x) l
theorem zp3 (p:Option Nt) (x:Nt) (l:List Nt):chkA p (x :: l)=if ntF x≠0 then ntF x else if badO p x=true then 7 else chkA (some x) l:=by cases p <;> rfl
theorem zA7 (p:Option Nt):chkA p []=0:=by cases p <;> rfl
def chkN (l:List Nt):Int:=if 2000 < l.length then 2 else if chkA none l≠0 then chkA none l else if (l.map ky).Nodup then 0 else 6
def prv (l:List Nt) (k:Nat):Option Nt:=if k=0 then none else l[k - 1]?
theorem zm3 {α:Type} {l:List α} {k:Nat} {n:α} (h:l[k]?=some n):l.drop k=n :: l.drop (k+1):=by
 obtain⟨h1,h2⟩:=List.getElem?_eq_some_iff.1 h
 rw[List.drop_eq_getElem_cons h1,h2]
theorem zX9 {l:List Nt} {k:Nat} {x:Nt} (h:l[k]?=some x):prv l (k+1)=some x:=by unfold prv;rw[if_neg (by omega)];exact h
theorem zC1 {l:List Nt} {k:Nat} {x:Nt} (h:l[k]?=some x):(noRs l)[k]?=some (noR x):=by rw[List.getElem?_map,h];rfl
theorem zA5 {l:List Nt} {k:Nat} {x:Nt} (h:l[k]?=some x):(l.take (k+1)).map ky=(l.take k).map ky++[ky x]:=by rw[List.take_add_one,h];simp
theorem zw14 {N:Nat} {E:Env} {F:Fm} {H:List OB} {o:Oper} {x ix:Operand} {b ck:Nat} {l:List (Nat × (List UInt8 × Int) × Bool)} {k:List UInt8 × Int} {q:Bool} (hq:(mget l k).getD false=q) (ho:o.op = .lookup 215 x ix false)
    (hx:ev F x=some (.mp b)) (hH:H[b]?=some (mpO encO encB l ck)) (hi:ev F ix=some (encO.x k)):Rd Tryz.prog N E o F H (.c (B q)):=by
 have:=zh4 (N:=N) (E:=E) (ke:=encO) (ve:=encB) (k:=k) (z:=false) keyO ho Tryz.underlying215 (by kernel_rfl) hx hH hi (fun ρ H=>encO.den k ρ H)
 rwa [hq] at this
theorem zD14 {N:Nat} {E:Env} {F:Fm} {H:List OB} {o:Oper} {x ix y:Operand} {b ck:Nat} {l:List (Nat × (List UInt8 × Int) × Bool)} {k:List UInt8 × Int} {z:Bool} (ho:o.op = .mapUpdate 215 x ix y) (hd:o.dst=none)
    (hx:ev F x=some (.mp b)) (hH:H[b]?=some (mpO encO encB l ck)) (hi:ev F ix=some (encO.x k)) (hy:ev F y=some (encB.x z)):Ef Tryz.prog N E o F H fun F' H'=>F'=F∧H'=H.set b (mpO encO encB (mset ck k z l) (mclk ck k l)):=
 zl3 (ke:=encO) (ve:=encB) (k:=k) (z:=z) keyO ho hd Tryz.underlying215 hx hH hi (fun ρ H=>encO.den k ρ H) hy (fun ρ H=>encB.den z ρ H)
set_option maxHeartbeats 2000000 in
theorem za2 (v:Value) (l:List Nt) (hl:l.length≤1000000) (hs:∀x∈l,NtS x):ACalls Tryz.prog 65 [.c (.r v (noRs l))] [] fun u H=>u = .c (I (chkN l))∧H = []:=by
 have e1:(noRs l).length=l.length:=by simp
 refine zf (N:=56) Tryz.func65 rfl rfl (by simp) fun E hE=>?_
 refine WA ?_
 refine WA ?_
 refine zl rfl (fun h0=>?_) (fun h0=>?_)
 ·refine WA ?_
  exact arz (q:=⟨by rw[chkN,if_pos (by omega)],rfl⟩)
 have e2:chkN l=if chkA none l≠0 then chkA none l else if (l.map ky).Nodup then 0 else 6:=by rw[chkN,if_neg (by omega)]
 refine WA ?_
 refine zq (fun m F H=>∃(k:Nat),m+k=l.length∧chkA (prv l k) (l.drop k)=chkA none l∧F = [(0,.c (.r v (noRs l))),(13,.c (.r v (noRs l))),(14,.c (I (noRs l).length)),(15,.c (I k))]∧H = []) ?_ ?_
 ·refine wkg [] (fun _=>[(0,.c (.r v (noRs l))),(13,.c (.r v (noRs l))),(14,.c (I (noRs l).length)),(15,.c (I (0:Nat)))]) (fun _=>[]) (fun _=>?_) (hH:=fun _=>.nil)
  exact⟨l.length,0,by omega,rfl,rfl,rfl⟩
 ·rintro m F H ⟨k,hk,hf,rfl,rfl⟩
  refine WA ?_
  refine zl rfl (fun hlt=>?_) (fun hge=>?_)
  ·obtain⟨x,hx⟩:∃n,l[k]?=some n:=⟨_,List.getElem?_eq_getElem (by omega)⟩
   have hrow0:=zC1 hx
   have hxs:=hs x (List.mem_of_getElem? hx)
   rw[zm3 hx,zp3] at hf
   have hpn:=zX9 hx
   obtain⟨st,no,at_,kn,pr,jb,sp,n,of_,ot⟩:=x
   have hrow:(noRs l)[k]?=some [T st,I no,I at_,I kn,T pr,T jb,T sp,I n,T of_,I ot]:=hrow0
   refine WA ?_
   refine WR ?_
   refine ze rfl (zz false (fun _=>zX13 ⟨st,no,at_,kn,pr,jb,sp,n,of_,ot⟩ hxs) rfl .fn rfl (by decide) (by kernel_rfl) rfl (fun _=>.cons (.aL (C0 rfl)) .nil) (by simp)) ?_
   rintro _ _ ⟨_,_,_,⟨rfl,rfl⟩,hF,hH⟩
   (refine NST hF hH ?_;clear hF hH;rintro rfl rfl)
   refine WE ?_
   generalize ntF ⟨st,no,at_,kn,pr,jb,sp,n,of_,ot⟩=e at hf ⊢
   refine WA ?_
   refine zl rfl (fun h1=>?_) (fun h1=>?_)
   ·rw[if_pos h1] at hf
    refine WA ?_
    exact arz (q:=⟨by rw[e2,←hf,if_pos h1],rfl⟩)
   rw[if_neg h1] at hf
   refine ZZ ?_
   obtain⟨q,hq⟩:∃q,badO (prv l k) ⟨st,no,at_,kn,pr,jb,sp,n,of_,ot⟩=q:=⟨_,rfl⟩
   rw[hq] at hf
   refine zE1 (fun F H=>∃p,F = [(0,.c (.r v (noRs l))),(13,.c (.r v (noRs l))),(14,.c (I (noRs l).length)),(15,.c (I k)),(36,.c (B q))]∧H = [.box p]) ?_ ?_ zV2
   ·by_cases hk0:k=0
    ·subst hk0
     have hq':q=false:=hq.symm
     subst hq'
     refine ZZ ?_
     refine zd [(0,none),(1,none),(2,none),(3,none),(4,none),(5,none),(6,none),(7,none),(8,none),(9,some []),(10,none),(11,none)] zn (by kernel_rfl) ?_
     refine WP ?_
     first|refine zF3 rfl rfl rfl (by decide) ⟨zh, ?_⟩|(refine zG3 rfl (zz false (fun _=>zC4 ⟨st,no,at_,kn,pr,jb,sp,n,of_,ot⟩ ⟨st,no,at_,kn,pr,jb,sp,n,of_,ot⟩) rfl .fn rfl (by decide) (by kernel_rfl) rfl (fun _=>.cons (.aL (C0 rfl)) (.cons (.aL (C0 rfl)) .nil)) (by simp)) ?_;rintro _ _ ⟨_,_,_,⟨rfl,rfl⟩,hF,hH⟩;(refine NST hF hH ?_;clear hF hH;rintro rfl rfl);refine⟨zh, ?_⟩)
     refine WQ ?_
     all_goals refine wkg [some 0] (fun _=>[(0,.c (.r v (noRs l))),(13,.c (.r v (noRs l))),(14,.c (I (noRs l).length)),(15,.c (I (0:Nat))),(36,.c (B false))]) (fun _=>[.box [.c (T st),.c (I no),.c (I at_),.c (I kn),.c (T pr),.c (T jb),.c (T sp),.c (I n),.c (T of_),.c (I ot)]]) (fun _=>?_)
     all_goals exact⟨_,rfl,rfl⟩
    ·obtain⟨y,hy⟩:∃n,l[k - 1]?=some n:=⟨_,List.getElem?_eq_getElem (by omega)⟩
     have hkp:(0:Int) < (k:Int):=by omega
     have hpy:prv l k=some y:=by unfold prv;rw[if_neg hk0];exact hy
     rw[hpy] at hq
     have hq':decide (0≤cmpNt y ⟨st,no,at_,kn,pr,jb,sp,n,of_,ot⟩)=q:=hq
     have hrowy0:=zC1 hy
     have hk1:((k:Int) - 1)=((k - 1:Nat):Int):=by omega
     obtain⟨y0,y1,y2,y3,y4,y5,y6,y7,y8,y9⟩:=y
     have hrowy:(noRs l)[k - 1]?=some [T y0,I y1,I y2,I y3,T y4,T y5,T y6,I y7,T y8,I y9]:=hrowy0
     refine ZZ ?_
     refine zd [(0,none),(1,none),(2,none),(3,none),(4,none),(5,none),(6,none),(7,none),(8,none),(9,some []),(10,none),(11,none)] zn (by kernel_rfl) ?_
     refine WP ?_
     first|refine zF3 rfl rfl rfl (by decide) ⟨zh, ?_⟩|(refine zG3 rfl (zz false (fun _=>zC4 ⟨y0,y1,y2,y3,y4,y5,y6,y7,y8,y9⟩ ⟨st,no,at_,kn,pr,jb,sp,n,of_,ot⟩) rfl .fn rfl (by decide) (by kernel_rfl) rfl (fun _=>.cons (.aL (C0 rfl)) (.cons (.aL (C0 rfl)) .nil)) (by simp)) ?_;rintro _ _ ⟨_,_,_,⟨rfl,rfl⟩,hF,hH⟩;(refine NST hF hH ?_;clear hF hH;rintro rfl rfl);refine⟨zh, ?_⟩)
     refine WQ ?_
     all_goals refine wkg [some 0] (fun _=>[(0,.c (.r v (noRs l))),(13,.c (.r v (noRs l))),(14,.c (I (noRs l).length)),(15,.c (I k)),(36,.c (B q))]) (fun _=>[.box [.c (T st),.c (I no),.c (I at_),.c (I kn),.c (T pr),.c (T jb),.c (T sp),.c (I n),.c (T of_),.c (I ot)]]) (fun _=>?_)
     all_goals exact⟨_,rfl,rfl⟩
   rintro F H ⟨p,rfl,rfl⟩
   cases q with
   | true=>
    refine zb rfl ?_
    refine WA ?_
    exact arz (q:=⟨by rw[e2,←hf];rfl,rfl⟩)
   | false=>
    refine za rfl ?_
    refine WA ?_
    refine wkg [] (fun _=>[(0,.c (.r v (noRs l))),(13,.c (.r v (noRs l))),(14,.c (I (noRs l).length)),(15,.c (I (k+1:Nat)))]) (fun _=>[]) (fun _=>?_) (hH:=fun _=>.nil)
    exact⟨m - 1,by omega,k+1,by omega,by rw[hpn,←hf];rfl,rfl,rfl⟩
  have h0':chkA none l=0:=by rw[←hf,List.drop_eq_nil_of_le (by omega),zA7]
  rw[if_neg (by rw[h0'];simp)] at e2
  refine ZR ?_
  refine ze rfl (zz1 rfl rfl (by decide)) ?_
  rintro _ _ ⟨rfl,rfl⟩
  refine WE ?_
  refine WA ?_
  refine zq (fun m F H=>∃(k mk:Nat) (ml:List (Nat × (List UInt8 × Int) × Bool)),m+k=l.length∧((l.take k).map ky).Nodup∧(∀s,(mget ml s).getD false=((l.take k).map ky).contains s)∧F = [(6,.mp 0),(39,.c (.r v (noRs l))),(40,.c (I (noRs l).length)),(41,.c (I k))]∧H = [mpO encO encB ml mk]) ?_ ?_
  ·refine wkg [some 0] (fun _=>[(6,.mp 0),(39,.c (.r v (noRs l))),(40,.c (I (noRs l).length)),(41,.c (I (0:Nat)))]) (fun _=>[mpO encO encB [] 0]) (fun _=>?_)
   exact⟨l.length,0,0,[],by omega,by simp,by simp[mget],rfl,rfl⟩
  ·rintro m F H ⟨k,mk,ml,hk,hd,hm,rfl,rfl⟩
   refine WA ?_
   refine zl rfl (fun hlt=>?_) (fun hge=>?_)
   ·obtain⟨x,hx⟩:∃n,l[k]?=some n:=⟨_,List.getElem?_eq_getElem (by omega)⟩
    have hrow0:=zC1 hx
    have hmt:=zA5 hx
    obtain⟨st,no,at_,kn,pr,jb,sp,n,of_,ot⟩:=x
    have hrow:(noRs l)[k]?=some [T st,I no,I at_,I kn,T pr,T jb,T sp,I n,T of_,I ot]:=hrow0
    obtain⟨q,hq⟩:∃q,(mget ml (st,no)).getD false=q:=⟨_,rfl⟩
    have hq2:=hm (st,no)
    rw[hq] at hq2
    refine WA ?_
    refine WA ?_
    refine ZR ?_
    iterate 2 refine WX1 ?_
    refine ZA (zw14 (k:=(st,no)) (l:=ml) (ck:=mk) hq rfl rfl rfl rfl) ?_
    refine WE ?_
    cases q with
    | true=>
     refine zb rfl ?_
     refine WA ?_
     refine arz (q:=⟨?_,rfl⟩)
     rw[e2,if_neg]
     intro hn
     rw[←List.take_append_drop (k+1) l,List.map_append,hmt] at hn
     have h3:=(List.nodup_append.1 (List.nodup_append.1 hn).1).2.2
     have h4:=List.contains_iff_mem.1 hq2.symm
     exact h3 _ h4 _ (List.mem_singleton.2 rfl) rfl
    | false=>
     refine za rfl ?_
     refine ZR ?_
     iterate 2 refine WX1 ?_
     refine ze rfl (zD14 (k:=(st,no)) (l:=ml) (ck:=mk) (z:=true) rfl rfl rfl rfl rfl rfl) ?_
     rintro _ _ ⟨rfl,rfl⟩
     refine WE ?_
     refine WA ?_
     refine wkg [some 0] (fun _=>[(6,.mp 0),(39,.c (.r v (noRs l))),(40,.c (I (noRs l).length)),(41,.c (I (k+1:Nat)))]) (fun _=>[mpO encO encB (mset mk (st,no) true ml) (mclk mk (st,no) ml)]) (fun _=>?_)
     refine⟨m - 1,by omega,k+1,_,_,by omega, ?_,fun s=>?_,rfl,rfl⟩
     ·rw[hmt]
      refine List.nodup_append.2 ⟨hd,by simp,fun a ha b hb e=>?_⟩
      rw[List.mem_singleton] at hb
      subst hb;subst e
      rw[List.contains_iff_mem.2 ha] at hq2;cases hq2
     ·rw[hmt,zY]
      by_cases h:s=(st,no)
      ·rw[if_pos h,h];simp
      ·rw[if_neg h,hm,List.contains_eq_mem,List.contains_eq_mem];simp[h]
   refine WA ?_
   refine arz (q:=⟨?_,rfl⟩)
   rw[List.take_of_length_le (by omega)] at hd
   rw[e2,if_pos hd]
end Go.Proofs.YtophoepbedlhjaaGreatDoor
namespace Go.Proofs.YtophoepbedlhjaaGreatDoor
open Go Go.RowKit
def rdE (p:Option (List Nt) × Nat):List Nt × Int × Int:=match p.1 with
 | none=>([],(p.2:Int),9)
 | some r=>if chkN r≠0 then ([],0,chkN r) else (r,0,0)
def rdF (t:List UInt8):List Nt × Int × Int:=if 200000 < t.length then ([],0,2) else rdE (rdL (lnsF t).2 (lnsF t).1 0)
def rdI (en:Bool) (ls:List (List UInt8)) (k:Nat) (out:List Nt):Prop:=rdL en ls 0=((rdL en (ls.drop k) k).1.map (out++·),(rdL en (ls.drop k) k).2)
theorem zs18 (en:Bool) (ls:List (List UInt8)):rdI en ls 0 []:=by
 unfold rdI
 rw[List.drop_zero]
 cases h:rdL en ls 0 with
 | mk a b=>cases a <;> simp
theorem zf12 {en:Bool} {ls:List (List UInt8)} {k:Nat} {out:List Nt} {s:List UInt8} (h:rdI en ls k out) (hs:ls[k]?=some s) (hr:rnF s=none∨(en=false∧k+1=ls.length)):rdL en ls 0=(none,k):=by
 unfold rdI at h
 rw[zm3 hs] at h
 rw[h,rdL]
 rcases hr with hr|⟨he,hk⟩
 ·rw[hr];rfl
 ·cases rnF s with
  | none=>rfl
  | some x=>
   simp only
   rw[if_pos ⟨he,List.drop_eq_nil_of_le (by omega)⟩]
   rfl
theorem zM13 {en:Bool} {ls:List (List UInt8)} {k:Nat} {out:List Nt} {s:List UInt8} {x:Nt} (h:rdI en ls k out) (hs:ls[k]?=some s) (hr:rnF s=some x) (hn:¬(en=false∧k+1=ls.length)):rdI en ls (k+1) (out++[x]):=by
 unfold rdI at h ⊢
 have hk:=(List.getElem?_eq_some_iff.1 hs).1
 rw[zm3 hs] at h
 rw[h,rdL,hr]
 simp only
 have hd:¬(en=false∧ls.drop (k+1) = []):=fun⟨h1,h2⟩=>hn ⟨h1,by have:=List.drop_eq_nil_iff.1 h2;omega⟩
 rw[if_neg hd]
 cases (rdL en (ls.drop (k+1)) (k+1)).1 <;> simp
theorem zF15 {en:Bool} {ls:List (List UInt8)} {out:List Nt} (h:rdI en ls ls.length out):(rdL en ls 0).1=some out:=by
 unfold rdI at h
 rw[h,List.drop_length]
 simp[rdL]
theorem zq17 {l:List Nt} (h:chkN l=0) (hn:∀x∈l,ntF x=0) (hl:(txF l).length≤200000):rdF (txF l)=(l,0,0):=by
 unfold rdF
 rw[if_neg (by omega),zx17 l hn]
 simp only
 unfold rdE
 rw[zU9 l 0 hn]
 simp only
 rw[if_neg (by rw[h];simp)]
theorem zD17 (w:List UInt8) (ws:List (List UInt8)) (h:∀x∈w :: ws,x.length≤40):(jnF (w :: ws)).length≤41*(ws.length+1):=by
 unfold jnF
 rw[List.length_append,Lib.join_length]
 have:∀l:List (List UInt8),(∀x∈l,x.length≤40)→Lib.lens l≤40*l.length:=fun l=>by
  induction l with
  | nil=>intro _;simp[Lib.lens]
  | cons a l ih=>
   intro hl
   have h1:=hl a List.mem_cons_self
   have h2:=ih fun x hx=>hl x (List.mem_cons_of_mem _ hx)
   simp only[Lib.lens,List.map_cons,List.sum_cons,List.length_cons] at h2 ⊢
   omega
 have:=this (w :: ws) h
 simp only[List.length_cons,List.length_nil] at this ⊢
 omega
theorem zI9 {x:Nt} (h:ntF x=0):(∀w∈txW x,w.length≤40)∧(txW x).length≤10:=by
 obtain⟨h1,h2,h3,h4,e1,e2,e3,e4,e5,g1,g2,g3,g4,g5⟩:=zS2 h
 have key:∀{s:List UInt8},keyB s=true→s.length≤40:=fun hk=>(zH2 hk).2.1
 have num:∀{n:Int},0≤n→n≤345686399999→(Lib.itoa n).length≤40:=fun {n} ha hb=>by
  have:=Lib.itoa_length_le n (by omega) (by omega)
  omega
 have nul:([]:List UInt8).length≤40:=by simp
 have b1:x.pr.length≤40:=by cases hu:uP x.kd with|true=>exact key (e1 hu)|false=>rw[g1 hu];exact nul
 have b2:x.jb.length≤40:=by cases hu:uJ x.kd with|true=>exact key (e2 hu)|false=>rw[g2 hu];exact nul
 have b3:x.sp.length≤40:=by cases hu:uS x.kd with|true=>exact key (e3 hu)|false=>rw[g3 hu];exact nul
 have b4:x.of_.length≤40:=by cases hu:uU x.kd with|true=>exact key (e4 hu).1|false=>rw[(g5 hu).1];exact nul
 have b5:uU x.kd=true→(Lib.itoa x.ot).length≤40:=fun hu=>num (by have:=e4 hu;omega) (by have:=e4 hu;omega)
 have b6:0 < uM x.kd→(Lib.itoa x.n).length≤40:=fun hu=>by
  have h5:=e5 hu
  have:uM x.kd≤100000000:=by unfold uM;split <;> (try split) <;> omega
  exact num (by omega) (by omega)
 have b0:=(zu12 x.kd h4).2.2.2.2
 constructor
 ·intro w hw
  unfold txW at hw
  rw[List.mem_append,List.mem_append,List.mem_append,List.mem_filter] at hw
  rcases hw with((hw|⟨hw,_⟩)|hw)|hw
  ·simp only[List.mem_cons,List.not_mem_nil,or_false] at hw
   rcases hw with rfl|rfl|rfl|rfl
   ·exact key h1
   ·exact num (by omega) (by omega)
   ·exact num (by omega) (by omega)
   ·omega
  ·simp only[List.mem_cons,List.not_mem_nil,or_false] at hw
   rcases hw with rfl|rfl|rfl <;> assumption
  ·split at hw
   ·rw[List.mem_singleton] at hw;subst hw;exact b6 (by assumption)
   ·cases hw
  ·split at hw
   ·rename_i hu
    simp only[List.mem_cons,List.not_mem_nil,or_false] at hw
    rcases hw with rfl|rfl
    ·exact b4
    ·exact b5 hu
   ·cases hw
 ·unfold txW
  have:=List.length_filter_le (fun s=>decide (s≠[])) [x.pr,x.jb,x.sp]
  generalize [x.pr,x.jb,x.sp].filter (fun s=>decide (s≠[]))=ff at this ⊢
  simp only[List.length_append,List.length_cons,List.length_nil] at this ⊢
  split <;> split <;> simp only[List.length_cons,List.length_nil] <;> omega
theorem zF11 {x:Nt} (h:ntF x=0):(jnF (txW x)).length≤410:=by
 obtain⟨h1,h2⟩:=zI9 h
 have e:txW x=x.st :: (txW x).tail:=rfl
 have:=zD17 x.st (txW x).tail (by rw[←e];exact h1)
 rw[←e] at this
 have h3:(txW x).tail.length+1=(txW x).length:=by rw[e];rfl
 omega
theorem zL6:∀{l:List Nt},(∀x∈l,ntF x=0)→(txF l).length≤410*l.length
 | [],_=>Nat.zero_le _
 | x :: l,h=>by
  have h1:=zF11 (h x List.mem_cons_self)
  have h2:=zL6 (l:=l) fun y hy=>h y (List.mem_cons_of_mem _ hy)
  unfold txF at h2 ⊢
  rw[List.map_cons,List.flatten_cons,List.length_append,List.length_cons]
  omega
end Go.Proofs.YtophoepbedlhjaaGreatDoor
