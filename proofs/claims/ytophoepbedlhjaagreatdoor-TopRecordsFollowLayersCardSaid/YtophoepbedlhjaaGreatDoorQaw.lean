/- Books of jobs, plain: what notes that count tell. -/
import Derived.Test.YtophoepbedlhjaaGreatDoorQav
import Derived.Test.YtophoepbedlhjaaGreatDoorQau
import Derived.Test.YtophoepbedlhjaaGreatDoorQan
set_option linter.unusedSimpArgs false
set_option linter.unusedVariables false
-- NEWM
namespace Go.Proofs.YtophoepbedlhjaaGreatDoor
open Go Go.RowKit
set_option maxRecDepth 100000
abbrev ky (x:Nt):List UInt8 × Int:=(x.st,x.no)
def badO:Option Nt→Nt→Bool
 | none,_=>false
 | some q,x=>decide (0≤cmpNt q x)
def chkA:Option Nt→List Nt→Int
 | _,[]=>0
 | p,x :: l=>if ntF x≠0 then ntF x else if badO p x=true then 7 else chkA (some x) l
theorem zZ3 (p:Option Nt) (x:Nt) (l:List Nt):chkA p (x :: l)=if ntF x≠0 then ntF x else if badO p x=true then 7 else chkA (some x) l:=by cases p <;> rfl
theorem zo9 (p:Option Nt):chkA p []=0:=by cases p <;> rfl
def chkN (l:List Nt):Int:=if 2000 < l.length then 2 else if chkA none l≠0 then chkA none l else if (l.map ky).Nodup then 0 else 6
def prv (l:List Nt) (k:Nat):Option Nt:=if k=0 then none else l[k - 1]?
theorem zj8 {α:Type} {l:List α} {k:Nat} {n:α} (h:l[k]?=some n):l.drop k=n :: l.drop (k+1):=by
 obtain⟨h1,h2⟩:=List.getElem?_eq_some_iff.1 h
 rw[List.drop_eq_getElem_cons h1,h2]
theorem prv_next {l:List Nt} {k:Nat} {x:Nt} (h:l[k]?=some x):prv l (k+1)=some x:=by unfold prv;rw[if_neg (by omega)];exact h
theorem zY6 {l:List Nt} {k:Nat} {x:Nt} (h:l[k]?=some x):(noRs l)[k]?=some (noR x):=by rw[List.getElem?_map,h];rfl
theorem zX7 {l:List Nt} {k:Nat} {x:Nt} (h:l[k]?=some x):(l.take (k+1)).map ky=(l.take k).map ky++[ky x]:=by rw[List.take_add_one,h];simp
theorem rd_lkO {N:Nat} {E:Env} {F:Fm} {H:List OB} {o:Oper} {x ix:Operand} {b ck:Nat} {l:List (Nat × (List UInt8 × Int) × Bool)} {k:List UInt8 × Int} {q:Bool} (hq:(mget l k).getD false=q) (ho:o.op = .lookup 215 x ix false)
    (hx:ev F x=some (.mp b)) (hH:H[b]?=some (mpO encO encB l ck)) (hi:ev F ix=some (encO.x k)):Rd Tryz.prog N E o F H (.c (B q)):=by
 have:=ze3 (N:=N) (E:=E) (ke:=encO) (ve:=encB) (k:=k) (z:=false) keyO ho Tryz.underlying215 (by kernel_rfl) hx hH hi (fun ρ H=>encO.den k ρ H)
 rwa [hq] at this
theorem ef_muO {N:Nat} {E:Env} {F:Fm} {H:List OB} {o:Oper} {x ix y:Operand} {b ck:Nat} {l:List (Nat × (List UInt8 × Int) × Bool)} {k:List UInt8 × Int} {z:Bool} (ho:o.op = .mapUpdate 215 x ix y) (hd:o.dst=none)
    (hx:ev F x=some (.mp b)) (hH:H[b]?=some (mpO encO encB l ck)) (hi:ev F ix=some (encO.x k)) (hy:ev F y=some (encB.x z)):Ef Tryz.prog N E o F H fun F' H'=>F'=F∧H'=H.set b (mpO encO encB (mset ck k z l) (mclk ck k l)):=
 zj3 (ke:=encO) (ve:=encB) (k:=k) (z:=z) keyO ho hd Tryz.underlying215 hx hH hi (fun ρ H=>encO.den k ρ H) hy (fun ρ H=>encB.den z ρ H)
set_option maxHeartbeats 2000000 in
theorem zz7 (v:Value) (l:List Nt) (hl:l.length≤1000000) (hs:∀x∈l,NtS x):ACalls Tryz.prog 65 [.c (.r v (noRs l))] [] fun u H=>u = .c (I (chkN l))∧H = []:=by
 have e1:(noRs l).length=l.length:=by simp
 refine zb (N:=56) Tryz.func65 rfl rfl (by simp) fun E hE=>?_
 refine WA ?_
 refine WA ?_
 refine zl rfl (fun h0=>?_) (fun h0=>?_)
 ·refine WA ?_
  exact arz (q:=⟨by rw[chkN,if_pos (by omega)],rfl⟩)
 have e2:chkN l=if chkA none l≠0 then chkA none l else if (l.map ky).Nodup then 0 else 6:=by rw[chkN,if_neg (by omega)]
 refine WA ?_
 refine zm (fun m F H=>∃(k:Nat),m+k=l.length∧chkA (prv l k) (l.drop k)=chkA none l∧F = [(0,.c (.r v (noRs l))),(13,.c (.r v (noRs l))),(14,.c (I (noRs l).length)),(15,.c (I k))]∧H = []) ?_ ?_
 ·refine wkg [] (fun _=>[(0,.c (.r v (noRs l))),(13,.c (.r v (noRs l))),(14,.c (I (noRs l).length)),(15,.c (I (0:Nat)))]) (fun _=>[]) (fun _=>?_) (hH:=fun _=>.nil)
  exact⟨l.length,0,by omega,rfl,rfl,rfl⟩
 ·rintro m F H ⟨k,hk,hf,rfl,rfl⟩
  refine WA ?_
  refine zl rfl (fun hlt=>?_) (fun hge=>?_)
  ·obtain⟨x,hx⟩:∃n,l[k]?=some n:=⟨_,List.getElem?_eq_getElem (by omega)⟩
   have hrow0:=zY6 hx
   have hxs:=hs x (List.mem_of_getElem? hx)
   rw[zj8 hx,zZ3] at hf
   have hpn:=prv_next hx
   obtain⟨st,no,at_,kn,pr,jb,sp,n,of_,ot⟩:=x
   have hrow:(noRs l)[k]?=some [T st,I no,I at_,I kn,T pr,T jb,T sp,I n,T of_,I ot]:=hrow0
   refine WA ?_
   refine WR ?_
   refine zf rfl (zn false (fun _=>formed_v ⟨st,no,at_,kn,pr,jb,sp,n,of_,ot⟩ hxs) rfl .fn rfl (by decide) (by kernel_rfl) rfl (fun _=>.cons (.aL (C0 rfl)) .nil) (by simp)) ?_
   rintro _ _ ⟨_,_,_,⟨rfl,rfl⟩,hF,hH⟩
   (refine NST hF hH ?_;clear hF hH;rintro rfl rfl)
   refine WE ?_
   generalize ntF ⟨st,no,at_,kn,pr,jb,sp,n,of_,ot⟩=e at hf ⊢
   refine WA ?_
   refine zl rfl (fun h1=>?_) (fun h1=>?_)
   ·rw[if_pos h1] at hf
    refine WA ?_
    exact arz (q:=⟨by rw[e2,←hf,if_pos h1],rfl⟩)
   rw[if_neg h1] at hf
   refine ZZ ?_
   obtain⟨q,hq⟩:∃q,badO (prv l k) ⟨st,no,at_,kn,pr,jb,sp,n,of_,ot⟩=q:=⟨_,rfl⟩
   rw[hq] at hf
   refine zc4 (fun F H=>∃p,F = [(0,.c (.r v (noRs l))),(13,.c (.r v (noRs l))),(14,.c (I (noRs l).length)),(15,.c (I k)),(36,.c (B q))]∧H = [.box p]) ?_ ?_ zb6
   ·by_cases hk0:k=0
    ·subst hk0
     have hq':q=false:=hq.symm
     subst hq'
     refine ZZ ?_
     refine zc [(0,none),(1,none),(2,none),(3,none),(4,none),(5,none),(6,none),(7,none),(8,none),(9,some []),(10,none),(11,none)] zo (by kernel_rfl) ?_
     refine WP ?_
     first|refine at_efN rfl rfl rfl (by decide) ⟨zk, ?_⟩|(refine at_efK rfl (zn false (fun _=>zP5 ⟨st,no,at_,kn,pr,jb,sp,n,of_,ot⟩ ⟨st,no,at_,kn,pr,jb,sp,n,of_,ot⟩) rfl .fn rfl (by decide) (by kernel_rfl) rfl (fun _=>.cons (.aL (C0 rfl)) (.cons (.aL (C0 rfl)) .nil)) (by simp)) ?_;rintro _ _ ⟨_,_,_,⟨rfl,rfl⟩,hF,hH⟩;(refine NST hF hH ?_;clear hF hH;rintro rfl rfl);refine⟨zk, ?_⟩)
     refine WQ ?_
     all_goals refine wkg [some 0] (fun _=>[(0,.c (.r v (noRs l))),(13,.c (.r v (noRs l))),(14,.c (I (noRs l).length)),(15,.c (I (0:Nat))),(36,.c (B false))]) (fun _=>[.box [.c (T st),.c (I no),.c (I at_),.c (I kn),.c (T pr),.c (T jb),.c (T sp),.c (I n),.c (T of_),.c (I ot)]]) (fun _=>?_)
     all_goals exact⟨_,rfl,rfl⟩
    ·obtain⟨y,hy⟩:∃n,l[k - 1]?=some n:=⟨_,List.getElem?_eq_getElem (by omega)⟩
     have hkp:(0:Int) < (k:Int):=by omega
     have hpy:prv l k=some y:=by unfold prv;rw[if_neg hk0];exact hy
     rw[hpy] at hq
     have hq':decide (0≤cmpNt y ⟨st,no,at_,kn,pr,jb,sp,n,of_,ot⟩)=q:=hq
     have hrowy0:=zY6 hy
     have hk1:((k:Int) - 1)=((k - 1:Nat):Int):=by omega
     obtain⟨y0,y1,y2,y3,y4,y5,y6,y7,y8,y9⟩:=y
     have hrowy:(noRs l)[k - 1]?=some [T y0,I y1,I y2,I y3,T y4,T y5,T y6,I y7,T y8,I y9]:=hrowy0
     refine ZZ ?_
     refine zc [(0,none),(1,none),(2,none),(3,none),(4,none),(5,none),(6,none),(7,none),(8,none),(9,some []),(10,none),(11,none)] zo (by kernel_rfl) ?_
     refine WP ?_
     first|refine at_efN rfl rfl rfl (by decide) ⟨zk, ?_⟩|(refine at_efK rfl (zn false (fun _=>zP5 ⟨y0,y1,y2,y3,y4,y5,y6,y7,y8,y9⟩ ⟨st,no,at_,kn,pr,jb,sp,n,of_,ot⟩) rfl .fn rfl (by decide) (by kernel_rfl) rfl (fun _=>.cons (.aL (C0 rfl)) (.cons (.aL (C0 rfl)) .nil)) (by simp)) ?_;rintro _ _ ⟨_,_,_,⟨rfl,rfl⟩,hF,hH⟩;(refine NST hF hH ?_;clear hF hH;rintro rfl rfl);refine⟨zk, ?_⟩)
     refine WQ ?_
     all_goals refine wkg [some 0] (fun _=>[(0,.c (.r v (noRs l))),(13,.c (.r v (noRs l))),(14,.c (I (noRs l).length)),(15,.c (I k)),(36,.c (B q))]) (fun _=>[.box [.c (T st),.c (I no),.c (I at_),.c (I kn),.c (T pr),.c (T jb),.c (T sp),.c (I n),.c (T of_),.c (I ot)]]) (fun _=>?_)
     all_goals exact⟨_,rfl,rfl⟩
   rintro F H ⟨p,rfl,rfl⟩
   cases q with
   | true=>
    refine zd rfl ?_
    refine WA ?_
    exact arz (q:=⟨by rw[e2,←hf];rfl,rfl⟩)
   | false=>
    refine za rfl ?_
    refine WA ?_
    refine wkg [] (fun _=>[(0,.c (.r v (noRs l))),(13,.c (.r v (noRs l))),(14,.c (I (noRs l).length)),(15,.c (I (k+1:Nat)))]) (fun _=>[]) (fun _=>?_) (hH:=fun _=>.nil)
    exact⟨m - 1,by omega,k+1,by omega,by rw[hpn,←hf];rfl,rfl,rfl⟩
  have h0':chkA none l=0:=by rw[←hf,List.drop_eq_nil_of_le (by omega),zo9]
  rw[if_neg (by rw[h0'];simp)] at e2
  refine ZR ?_
  refine zf rfl (zW1 rfl rfl (by decide)) ?_
  rintro _ _ ⟨rfl,rfl⟩
  refine WE ?_
  refine WA ?_
  refine zm (fun m F H=>∃(k mk:Nat) (ml:List (Nat × (List UInt8 × Int) × Bool)),m+k=l.length∧((l.take k).map ky).Nodup∧(∀s,(mget ml s).getD false=((l.take k).map ky).contains s)∧F = [(6,.mp 0),(39,.c (.r v (noRs l))),(40,.c (I (noRs l).length)),(41,.c (I k))]∧H = [mpO encO encB ml mk]) ?_ ?_
  ·refine wkg [some 0] (fun _=>[(6,.mp 0),(39,.c (.r v (noRs l))),(40,.c (I (noRs l).length)),(41,.c (I (0:Nat)))]) (fun _=>[mpO encO encB [] 0]) (fun _=>?_)
   exact⟨l.length,0,0,[],by omega,by simp,by simp[mget],rfl,rfl⟩
  ·rintro m F H ⟨k,mk,ml,hk,hd,hm,rfl,rfl⟩
   refine WA ?_
   refine zl rfl (fun hlt=>?_) (fun hge=>?_)
   ·obtain⟨x,hx⟩:∃n,l[k]?=some n:=⟨_,List.getElem?_eq_getElem (by omega)⟩
    have hrow0:=zY6 hx
    have hmt:=zX7 hx
    obtain⟨st,no,at_,kn,pr,jb,sp,n,of_,ot⟩:=x
    have hrow:(noRs l)[k]?=some [T st,I no,I at_,I kn,T pr,T jb,T sp,I n,T of_,I ot]:=hrow0
    obtain⟨q,hq⟩:∃q,(mget ml (st,no)).getD false=q:=⟨_,rfl⟩
    have hq2:=hm (st,no)
    rw[hq] at hq2
    refine WA ?_
    refine WA ?_
    refine ZR ?_
    iterate 2 refine WX1 ?_
    refine ZA (rd_lkO (k:=(st,no)) (l:=ml) (ck:=mk) hq rfl rfl rfl rfl) ?_
    refine WE ?_
    cases q with
    | true=>
     refine zd rfl ?_
     refine WA ?_
     refine arz (q:=⟨?_,rfl⟩)
     rw[e2,if_neg]
     intro hn
     rw[←List.take_append_drop (k+1) l,List.map_append,hmt] at hn
     have h3:=(List.nodup_append.1 (List.nodup_append.1 hn).1).2.2
     have h4:=List.contains_iff_mem.1 hq2.symm
     exact h3 _ h4 _ (List.mem_singleton.2 rfl) rfl
    | false=>
     refine za rfl ?_
     refine ZR ?_
     iterate 2 refine WX1 ?_
     refine zf rfl (ef_muO (k:=(st,no)) (l:=ml) (ck:=mk) (z:=true) rfl rfl rfl rfl rfl rfl) ?_
     rintro _ _ ⟨rfl,rfl⟩
     refine WE ?_
     refine WA ?_
     refine wkg [some 0] (fun _=>[(6,.mp 0),(39,.c (.r v (noRs l))),(40,.c (I (noRs l).length)),(41,.c (I (k+1:Nat)))]) (fun _=>[mpO encO encB (mset mk (st,no) true ml) (mclk mk (st,no) ml)]) (fun _=>?_)
     refine⟨m - 1,by omega,k+1,_,_,by omega, ?_,fun s=>?_,rfl,rfl⟩
     ·rw[hmt]
      refine List.nodup_append.2 ⟨hd,by simp,fun a ha b hb e=>?_⟩
      rw[List.mem_singleton] at hb
      subst hb;subst e
      rw[List.contains_iff_mem.2 ha] at hq2;cases hq2
     ·rw[hmt,zK1]
      by_cases h:s=(st,no)
      ·rw[if_pos h,h];simp
      ·rw[if_neg h,hm,List.contains_eq_mem,List.contains_eq_mem];simp[h]
   refine WA ?_
   refine arz (q:=⟨?_,rfl⟩)
   rw[List.take_of_length_le (by omega)] at hd
   rw[e2,if_pos hd]
end Go.Proofs.YtophoepbedlhjaaGreatDoor
namespace Go.Proofs.YtophoepbedlhjaaGreatDoor
def mnL:List Int→Int
 | []=>0
 | [a]=>a
 | a :: b :: l=>min a (mnL (b :: l))
def mxL:List Int→Int
 | []=>0
 | [a]=>a
 | a :: b :: l=>max a (mxL (b :: l))
abbrev Spot:=Int × Int
abbrev cols (L:List Spot):List Int:=L.map Prod.fst
abbrev rws (L:List Spot):List Int:=L.map Prod.snd
def x0 (L:List Spot):Int:=mnL (cols L)
def x1 (L:List Spot):Int:=mxL (cols L)
def y0 (L:List Spot):Int:=mnL (rws L)
def y1 (L:List Spot):Int:=mxL (rws L)
end Go.Proofs.YtophoepbedlhjaaGreatDoor
namespace Go.Proofs.YtophoepbedlhjaaGreatDoor
open Go Go.RowKit
abbrev SE:=List (Nat × Spot × Bool)
structure SetOk (es:SE) (ck:Nat) (L:List Spot):Prop where
 hv:∀e∈es,e.2.2=true
 hb:∀e∈es,e.1 < ck
 nb:(es.map (·.1)).Nodup
 nk:(es.map (·.2.1)).Nodup
 hm:∀p,p∈es.map (·.2.1)↔p∈L
theorem SetOk.nil:SetOk [] 0 []:=⟨fun e h=>(by cases h),fun e h=>(by cases h),.nil,.nil,fun p=>Iff.rfl⟩
theorem SetOk.to {es:SE} {ck:Nat} {L L':List Spot} (h:SetOk es ck L) (hL:∀p,p∈L↔p∈L'):SetOk es ck L':=⟨h.hv,h.hb,h.nb,h.nk,fun p=>(h.hm p).trans (hL p)⟩
theorem mget_no {es:SE} {p:Spot}:mget es p=none↔p∉es.map (·.2.1):=by
 induction es with
 | nil=>simp[mget]
 | cons e es ih=>
  simp only[mget,List.map_cons,List.mem_cons]
  split
  ·rename_i h;simp[h]
  ·rename_i h;rw[ih];simp[h]
theorem mget_in {es:SE} {p:Spot} (hv:∀e∈es,e.2.2=true):(mget es p).getD false=decide (p∈es.map (·.2.1)):=by
 induction es with
 | nil=>simp[mget]
 | cons e es ih=>
  simp only[mget,List.map_cons,List.mem_cons]
  split
  ·rename_i h;simp[h,hv e List.mem_cons_self]
  ·rename_i h;rw[ih fun e he=>hv e (List.mem_cons_of_mem _ he)];simp[h]
theorem SetOk.get {es:SE} {ck:Nat} {L:List Spot} (h:SetOk es ck L) (p:Spot):(mget es p).getD false=decide (p∈L):=by
 rw[mget_in h.hv];simp only[h.hm]
theorem zh7 {ck:Nat} {p:Spot}:∀{es:SE},(∀e∈es,e.2.2=true)→p∈es.map (·.2.1)→mset ck p true es=es
 | [],_,h=>by simp at h
 | e :: es,hv,h=>by
  unfold mset
  split
  ·rename_i hp
   have:=hv e List.mem_cons_self
   obtain⟨a,b,c⟩:=e
   simp only at hp this ⊢
   rw[hp,this]
  ·rename_i hp
   rw[zh7 (fun e he=>hv e (List.mem_cons_of_mem _ he)) (by rw[List.map_cons,List.mem_cons] at h;exact h.resolve_left hp)]
theorem SetOk.set {es:SE} {ck:Nat} {L:List Spot} (h:SetOk es ck L) (p:Spot):SetOk (mset ck p true es) (mclk ck p es) (L++[p]):=by
 by_cases hp:p∈es.map (·.2.1)
 ·have hs:(mget es p).isSome=true:=by
   cases hg:mget es p with
   | some v=>rfl
   | none=>exact absurd hp (mget_no.1 hg)
  rw[zh7 h.hv hp,mclk,if_pos hs]
  refine h.to fun q=>?_
  rw[List.mem_append,List.mem_singleton]
  constructor
  ·exact .inl
  ·rintro(hq|rfl)
   ·exact hq
   ·exact(h.hm q).1 hp
 ·have hn:=mget_no.2 hp
  rw[zJ2 hn,mclk,if_neg (by rw[hn];simp)]
  refine⟨fun e he=>?_,fun e he=>?_, ?_, ?_,fun q=>?_⟩
  ·rcases List.mem_append.1 he with he|he
   ·exact h.hv e he
   ·rw[List.mem_singleton] at he;rw[he]
  ·rcases List.mem_append.1 he with he|he
   ·exact Nat.lt_succ_of_lt (h.hb e he)
   ·rw[List.mem_singleton] at he;rw[he];exact Nat.lt_succ_self _
  ·rw[List.map_append]
   refine List.nodup_append.2 ⟨h.nb,by simp,fun a ha b hb e=>?_⟩
   simp only[List.map_cons,List.map_nil,List.mem_singleton] at hb
   obtain⟨e',he',rfl⟩:=List.mem_map.1 ha
   have:=h.hb e' he'
   omega
  ·rw[List.map_append]
   refine List.nodup_append.2 ⟨h.nk,by simp,fun a ha b hb e=>?_⟩
   simp only[List.map_cons,List.map_nil,List.mem_singleton] at hb
   exact hp (by rw[←hb,←e];exact ha)
  ·rw[List.map_append,List.mem_append,List.mem_append,h.hm];simp
end Go.Proofs.YtophoepbedlhjaaGreatDoor
namespace Go.Proofs.YtophoepbedlhjaaGreatDoor
open Go Go.RowKit
section
variable {P:Program} {N:Nat} {E:Env} {F:Fm} {H:List OB} {o:Oper} {S:Nat→Prop} {ρ:List (Option Nat)} {a:Act} {w:World} {t:TypeId} {x y:Operand}
end
end Go.Proofs.YtophoepbedlhjaaGreatDoor
namespace Go.Proofs.YtophoepbedlhjaaGreatDoor
open Go Go.RowKit
def mdel {α β:Type} [DecidableEq α] (a:α):List (Nat × α × β)→List (Nat × α × β)
 | []=>[]
 | e :: l=>if a=e.2.1 then l else e :: mdel a l
theorem zm7 {α β:Type} [DecidableEq α] {a:α}:∀{l:List (Nat × α × β)},mget l a=none→mdel a l=l
 | [],_=>rfl
 | e :: l,h=>by
  simp only[mget] at h
  split at h
  ·cases h
  ·rename_i hne
   simp only[mdel]
   rw[if_neg hne,zm7 h]
theorem zl7 {α β:Type} [DecidableEq α] {a:α}:∀{l:List (Nat × α × β)} {i j:Nat},kpos a (l.map (·.2.1)) i=some j→i≤j∧mdel a l=l.eraseIdx (j - i)
 | [],_,_,h=>(by cases h)
 | e :: l,i,j,h=>by
  simp only[List.map_cons,kpos] at h
  simp only[mdel]
  split at h
  ·rename_i he
   injection h with h
   subst h
   rw[if_pos he]
   exact⟨Nat.le_refl _,by simp⟩
  ·rename_i he
   obtain⟨h1,h2⟩:=zl7 h
   rw[if_neg he,h2]
   exact⟨by omega,by rw[show j - i=(j - (i+1))+1 by omega,List.eraseIdx_cons_succ]⟩
theorem zv7 {α β:Type} (f:α→β):∀(l:List α) (i:Nat),(l.map f).eraseIdx i=(l.eraseIdx i).map f
 | [],_=>rfl
 | _ :: _,0=>rfl
 | x :: l,i+1=>by rw[List.map_cons,List.eraseIdx_cons_succ,List.eraseIdx_cons_succ,zv7 f l i,List.map_cons]
theorem mdel_sub {α β:Type} [DecidableEq α] {a:α}:∀{l:List (Nat × α × β)},(mdel a l).Sublist l
 | []=>.slnil
 | e :: l=>by
  simp only[mdel]
  split
  ·exact List.sublist_cons_self _ _
  ·exact mdel_sub.cons_cons _
theorem zc9 {p q:Spot}:∀{es:SE},(es.map (·.2.1)).Nodup→(q∈(mdel p es).map (·.2.1)↔q∈es.map (·.2.1)∧q≠p)
 | [],_=>by simp[mdel]
 | e :: es,h=>by
  rw[List.map_cons,List.nodup_cons] at h
  simp only[mdel]
  split
  ·rename_i hp
   rw[List.map_cons,List.mem_cons]
   constructor
   ·intro hq
    exact⟨.inr hq,fun e'=>h.1 (by rw[←hp,←e'];exact hq)⟩
   ·rintro⟨hq|hq,hne⟩
    ·exact absurd (hq.trans hp.symm) hne
    ·exact hq
  ·rename_i hp
   rw[List.map_cons,List.mem_cons,zc9 h.2,List.map_cons,List.mem_cons]
   constructor
   ·rintro(hq|hq)
    ·exact⟨.inl hq,fun e'=>hp (by rw[←e',hq])⟩
    ·exact⟨.inr hq.1,hq.2⟩
   ·rintro⟨hq|hq,hne⟩
    ·exact .inl hq
    ·exact .inr ⟨hq,hne⟩
theorem SetOk.del {es:SE} {ck:Nat} {L:List Spot} (h:SetOk es ck L) (p:Spot):SetOk (mdel p es) ck (L.filter fun q=>!decide (q=p)):=
 ⟨fun e he=>h.hv e (mdel_sub.subset he),fun e he=>h.hb e (mdel_sub.subset he),(mdel_sub.map _).nodup h.nb,(mdel_sub.map _).nodup h.nk,fun q=>by
  rw[zc9 h.nk,h.hm,List.mem_filter];simp⟩
section
variable {P:Program} {N:Nat} {E:Env} {F:Fm} {H:List OB} {o:Oper} {S:Nat→Prop} {ρ:List (Option Nat)} {a:Act} {w:World}
theorem zq11 {α β:Type} [DecidableEq α] {ke:Enc α} {ve:Enc β} {t kt et:TypeId} {x ix:Operand} {b ck:Nat} {l:List (Nat × α × β)} {k:α} {xk:AV} (hk:KeyOk P kt ke) (ho:o.op = .call { callee:=.builtin .delete,args:=#[x,ix],argTypes:=#[t,kt] }) (hd:o.dst=none) (ht:P.underlying t=some (.map kt et))
    (hx:ev F x=some (.mp b)) (hH:H[b]?=some (mpO ke ve l ck)) (hi:ev F ix=some xk) (hxk:∀ρ H,xk.den ρ H=ke.v k) :
    Ef P N E o F H fun F' H'=>F'=F∧H'=H.set b (mpO ke ve (mdel k l) ck):=fun S ρ a w hR=>by
 obtain⟨h1,_⟩:=hR.ev hx
 have h2:=(hR.ev hi).1
 rw[hxk] at h2
 obtain⟨B,ms,g1,g2,g3⟩:=zF4 hR.hp hH
 simp only[AV.den,g1] at h1
 obtain⟨r,f1,f2,f3⟩:=hk.find ms.toList (l.map (·.2.1)) k w (by rw[g3,List.map_map,List.map_map];rfl)
 obtain⟨q1,q2⟩:=zi3 (a:=k) l 0
 have fin:∀ms':Array MapEntry,ms'.toList=(mdel k l).map (fun e=>(⟨ke.v e.2.1,ve.v e.2.2,e.1⟩:MapEntry))→(Builtin.delete_ #[t,kt] o.type #[.map (some B),ke.v k]).run P w = .ok (.tuple #[]) (zp w B (.map ms' ck))→effO P o a w fun a' w'=>∃S' ρ' F' H',(F'=F∧H'=H.set b (mpO ke ve (mdel k l) ck))∧R N E S' ρ' F' H' a' w':=fun ms' hms hr=>by
  unfold effO
  have hex:(execOp a.eval o).run P w = .ok (.value (.tuple #[])) (zp w B (.map ms' ck)):=by
   unfold execOp
   simp only[ho,resolve,invoke,builtin,Sem.run_bind,Sem.run_pure,Result.andThen_ok,List.map_toArray,List.map_cons,List.map_nil,h1,h2,hr]
  rw[hex]
  refine⟨S,ρ,_,_,⟨rfl,rfl⟩, ?_⟩
  rw[hd]
  refine R.set (ob:=mpO ke ve l ck) hR hH g1 rfl rfl (fun _=>rfl) (zm1 _ _) ⟨B,ms',rfl,zJ1 g2,by rw[hms,List.map_map];rfl,fun e he=>?_⟩
  obtain⟨e',_,rfl⟩:=List.mem_map.1 he
  exact .s _
 cases hp:kpos k (l.map (·.2.1)) 0 with
 | none=>
  rw[f2 hp] at f1
  refine fin ms ?_ ?_
  ·rw[zm7 (q1 hp),g3]
  ·simp[Builtin.delete_,zJ ht,zQ3 g2,hk.chk,f1,zZ8 g2,Result.andThen]
 | some j=>
  obtain⟨m,f4,f5⟩:=f3 j hp
  rw[f5] at f1
  obtain⟨_,q6⟩:=zl7 hp
  have hjs:j < ms.size:=by
   have:=(List.getElem?_eq_some_iff.1 f4).1
   simpa using this
  refine fin (ms.eraseIdxIfInBounds j) ?_ ?_
  ·rw[q6,Nat.sub_zero]
   unfold Array.eraseIdxIfInBounds
   rw[dif_pos hjs,Array.toList_eraseIdx,g3,zv7]
  ·simp[Builtin.delete_,zJ ht,zQ3 g2,hk.chk,f1,zZ8 g2,Result.andThen]
end
end Go.Proofs.YtophoepbedlhjaaGreatDoor
namespace Go.Proofs.YtophoepbedlhjaaGreatDoor
open Go Go.RowKit
structure Jb where
 nm:List UInt8
 pr:List UInt8
 st:Int
 ly:List Int
 all:Int
 beg:Int
 en:Int
structure Bk where
 js:List Jb
 sp:List (Nat × List UInt8 × List UInt8)
 spk:Nat
 lf:List (Nat × List UInt8 × Int)
 lfk:Nat
 us:List (Nat × List UInt8 × Int)
 usk:Nat
def fndI {α:Type} (p:α→Bool):List α→Nat→Option Nat
 | [],_=>none
 | x :: l,i=>if p x=true then some i else fndI p l (i+1)
theorem zM2 {α:Type} {p:α→Bool}:∀{l:List α} {i k:Nat},fndI p l i=some k→i≤k∧∃x,l[k - i]?=some x∧p x=true
 | [],_,_,h=>by cases h
 | x :: l,i,k,h=>by
  rw[fndI] at h
  split at h
  ·rename_i hp
   injection h with h
   subst h
   exact⟨Nat.le_refl _,x,by simp,hp⟩
  ·obtain⟨h1,y,h2,h3⟩:=zM2 h
   exact⟨by omega,y,by rw[show k - i=(k - (i+1))+1 by omega,List.getElem?_cons_succ];exact h2,h3⟩
theorem zW3 {α:Type} {p:α→Bool}:∀{l:List α} {i:Nat},fndI p l i=none→∀x∈l,p x=false
 | [],_,_,x,hx=>by cases hx
 | y :: l,i,h,x,hx=>by
  rw[fndI] at h
  split at h
  ·cases h
  ·rename_i hp
   rcases List.mem_cons.1 hx with rfl|hx
   ·simpa using hp
   ·exact zW3 h x hx
theorem fndI_is {α:Type} {p:α→Bool} {l:List α} {k:Nat} {x:α} (h1:l[k]?=some x) (h2:p x=true) (hu:∀i y,l[i]?=some y→p y=true→i=k):fndI p l 0=some k:=by
 cases h:fndI p l 0 with
 | none=>rw[zW3 h x (List.mem_of_getElem? h1)] at h2;cases h2
 | some q=>
  obtain⟨_,y,h3,h4⟩:=zM2 h
  rw[hu q y (by simpa using h3) h4]
theorem ze8 {α:Type} {p:α→Bool} {l:List α} (h:∀x∈l,p x=false):fndI p l 0=none:=by
 cases hq:fndI p l 0 with
 | none=>rfl
 | some q=>
  obtain⟨_,y,h3,h4⟩:=zM2 hq
  rw[h y (List.mem_of_getElem? h3)] at h4
  cases h4
def runI (js:List Jb) (p:List UInt8):Option Nat:=fndI (fun j=>decide (j.pr=p) && decide (j.st=0)) js 0
def nmI (js:List Jb) (s:List UInt8):Option Nat:=fndI (fun j=>decide (s=j.nm)) js 0
def runJ (js:List Jb) (p:List UInt8):Option Jb:=(runI js p).bind fun k=>js[k]?
theorem zG1 {js:List Jb} {p:List UInt8} {k:Nat} (h:runI js p=some k):∃j,js[k]?=some j∧j.pr=p∧j.st=0:=by
 obtain⟨_,j,h1,h2⟩:=zM2 h
 simp only[Bool.and_eq_true,decide_eq_true_eq] at h2
 exact⟨j,by simpa using h1,h2.1,h2.2⟩
theorem nmI_some {js:List Jb} {s:List UInt8} {k:Nat} (h:nmI js s=some k):∃j,js[k]?=some j∧s=j.nm:=by
 obtain⟨_,j,h1,h2⟩:=zM2 h
 exact⟨j,by simpa using h1,of_decide_eq_true h2⟩
theorem zW8 {js:List Jb} {s:List UInt8} (h:nmI js s=none):∀j∈js,s≠j.nm:=fun j hj=>of_decide_eq_false (zW3 h j hj)
theorem zX6 {js:List Jb} {p:List UInt8} (h:runI js p=none):∀j∈js,¬(j.pr=p∧j.st=0):=fun j hj ⟨h1,h2⟩=>by
 have:=zW3 h j hj
 simp[h1,h2] at this
structure JsOk (js:List Jb):Prop where
 nm:∀(i k:Nat) (a b:Jb),js[i]?=some a→js[k]?=some b→a.nm=b.nm→i=k
 pr:∀(i k:Nat) (a b:Jb),js[i]?=some a→js[k]?=some b→a.pr=b.pr→a.st=0→b.st=0→i=k
 st:∀j∈js,j.st=0∨j.st=1∨j.st=2
 ne:∀j∈js,j.nm≠[]
 all:∀j∈js,(j.ly.length:Int)≤j.all∧j.all≤1000
theorem nmI_is {js:List Jb} (h:JsOk js) {k:Nat} {j:Jb} (hk:js[k]?=some j):nmI js j.nm=some k:=fndI_is hk (by simp) fun i y hy hp=>h.nm i k y j hy hk (of_decide_eq_true hp).symm
def stopJ (js:List Jb) (p:List UInt8) (s at_:Int):List Jb:=match runI js p with
 | some k=>js.modify k fun j=>{ j with st:=s,en:=at_ }
 | none=>js
def layJ (js:List Jb) (p:List UInt8) (at_:Int):List Jb:=match runI js p with
 | some k=>js.modify k fun j=>{ j with ly:=j.ly++[at_] }
 | none=>js
def inUse (sp:List (Nat × List UInt8 × List UInt8)) (s:List UInt8):Bool:=sp.any fun e=>decide (e.2.2=s)
def rfE (b:Bk) (x:Nt):Int:=
 if x.kd=1 then (if (nmI b.js x.jb).isSome=true then 6 else if (runI b.js x.pr).isSome=true then 12 else 0)
 else if x.kd=2 then (match runJ b.js x.pr with
  | none=>8
  | some j=>if x.n≠(j.ly.length:Int)+1 then 7 else if j.all < x.n then 2 else 0)
 else if x.kd=3 then (match runJ b.js x.pr with
  | none=>8
  | some j=>if (j.ly.length:Int) < j.all then 11 else 0)
 else if x.kd=4 then (if (runI b.js x.pr).isSome=true then 0 else 8)
 else if x.kd=5 then (if inUse b.sp x.sp=true then 6 else 0)
 else if x.kd=6 then (match mget b.sp x.pr with
  | none=>8
  | some k=>if (mget b.lf k).getD 0 < x.n then 12 else 0)
 else 0
def ntS (b:Bk) (x:Nt):Bk:=
 if x.kd=1 then { b with js:=b.js++[⟨x.jb,x.pr,0,[],x.n,x.at_,0⟩] }
 else if x.kd=2 then { b with js:=layJ b.js x.pr x.at_ }
 else if x.kd=3 then { b with js:=stopJ b.js x.pr 1 x.at_ }
 else if x.kd=4 then { b with js:=stopJ b.js x.pr 2 x.at_ }
 else if x.kd=5 then { b with sp:=mset b.spk x.pr x.sp b.sp,spk:=mclk b.spk x.pr b.sp,lf:=mset b.lfk x.sp x.n b.lf,lfk:=mclk b.lfk x.sp b.lf }
 else if x.kd=6 then { b with lf:=mset b.lfk ((mget b.sp x.pr).getD []) ((mget b.lf ((mget b.sp x.pr).getD [])).getD 0 - x.n) b.lf,lfk:=mclk b.lfk ((mget b.sp x.pr).getD []) b.lf,us:=mset b.usk ((mget b.sp x.pr).getD []) ((mget b.us ((mget b.sp x.pr).getD [])).getD 0+x.n) b.us,usk:=mclk b.usk ((mget b.sp x.pr).getD []) b.us }
 else b
def bk0:Bk:=⟨[],[],0,[],0,[],0⟩
def bkStep (s:Bk × List Int × List Int) (i:Int) (x:Nt):Bk × List Int × List Int:=
 if rfE s.1 x≠0 then (s.1,s.2.1++[i],s.2.2++[rfE s.1 x]) else (ntS s.1 x,s.2.1,s.2.2)
def bkK (l:List Nt) (ix:List Int):Nat→Bk × List Int × List Int
 | 0=>(bk0,[],[])
 | k+1=>match ix[k]? with
  | some i=>(match l[i.toNat]? with
   | some x=>bkStep (bkK l ix k) i x
   | none=>bkK l ix k)
  | none=>bkK l ix k
def bksF (l:List Nt) (ix:List Int):Bk × List Int × List Int:=bkK l ix ix.length
theorem zb4 {l:List Nt} {ix:List Int} {k:Nat} {i:Int} {x:Nt} (h1:ix[k]?=some i) (h2:l[i.toNat]?=some x):bkK l ix (k+1)=bkStep (bkK l ix k) i x:=by rw[bkK,h1];simp only;rw[h2]
structure MapOk {α β:Type} (es:List (Nat × α × β)) (ck:Nat):Prop where
 hb:∀e∈es,e.1 < ck
 nb:(es.map (·.1)).Nodup
 nk:(es.map (·.2.1)).Nodup
theorem zj7 {α β:Type} [DecidableEq α] {ck:Nat} {a:α} {b:β}:∀{l:List (Nat × α × β)} {c:β},mget l a=some c→(mset ck a b l).map (·.1)=l.map (·.1)∧(mset ck a b l).map (·.2.1)=l.map (·.2.1)
 | [],_,h=>by cases h
 | e :: l,c,h=>by
  simp only[mget] at h
  simp only[mset]
  split at h
  ·rename_i he
   rw[if_pos he]
   exact⟨rfl,by simp[he]⟩
  ·rename_i he
   rw[if_neg he]
   obtain⟨h1,h2⟩:=zj7 (ck:=ck) (b:=b) h
   exact⟨by simp[h1],by simp[h2]⟩
theorem mget_none {α β:Type} [DecidableEq α] {a:α}:∀{l:List (Nat × α × β)},mget l a=none↔a∉l.map (·.2.1)
 | []=>by simp[mget]
 | e :: l=>by
  simp only[mget,List.map_cons,List.mem_cons,not_or]
  split
  ·rename_i h;simp[h]
  ·rename_i h;rw[mget_none];simp[h]
theorem MapOk.nil {α β:Type}:MapOk ([]:List (Nat × α × β)) 0:=⟨by simp,by simp,by simp⟩
theorem MapOk.set {α β:Type} [DecidableEq α] {es:List (Nat × α × β)} {ck:Nat} (h:MapOk es ck) (a:α) (b:β):MapOk (mset ck a b es) (mclk ck a es):=by
 cases hg:mget es a with
 | some c=>
  obtain⟨h1,h2⟩:=zj7 (ck:=ck) (b:=b) hg
  have hc:mclk ck a es=ck:=by rw[mclk,hg];rfl
  rw[hc]
  refine⟨fun e he=>?_,by rw[h1];exact h.nb,by rw[h2];exact h.nk⟩
  have:e.1∈(mset ck a b es).map (·.1):=List.mem_map.2 ⟨e,he,rfl⟩
  rw[h1] at this
  obtain⟨e',he',h3⟩:=List.mem_map.1 this
  rw[←h3]
  exact h.hb e' he'
 | none=>
  have hc:mclk ck a es=ck+1:=by rw[mclk,hg];rfl
  rw[hc,zJ2 hg]
  refine⟨fun e he=>?_, ?_, ?_⟩
  ·rcases List.mem_append.1 he with he|he
   ·have:=h.hb e he;omega
   ·rw[List.mem_singleton] at he;subst he;simp
  ·rw[List.map_append,List.nodup_append]
   refine⟨h.nb,by simp,fun x hx y hy=>?_⟩
   simp only[List.map_cons,List.map_nil,List.mem_singleton] at hy
   subst hy
   obtain⟨e,he,rfl⟩:=List.mem_map.1 hx
   have:=h.hb e he
   omega
  ·rw[List.map_append,List.nodup_append]
   refine⟨h.nk,by simp,fun x hx y hy=>?_⟩
   simp only[List.map_cons,List.map_nil,List.mem_singleton] at hy
   subst hy
   exact fun e=>mget_none.1 hg (e▸hx)
theorem MapOk.del {α β:Type} [DecidableEq α] {es:List (Nat × α × β)} {ck:Nat} (h:MapOk es ck) (a:α):MapOk (mdel a es) ck:=
 ⟨fun e he=>h.hb e (mdel_sub.subset he),(mdel_sub.map _).nodup h.nb,(mdel_sub.map _).nodup h.nk⟩
theorem zk7 {α β:Type} [DecidableEq α] {a c:α}:∀{l:List (Nat × α × β)},(l.map (·.2.1)).Nodup→mget (mdel a l) c=if c=a then none else mget l c
 | [],_=>by simp[mdel,mget]
 | e :: l,hn=>by
  rw[List.map_cons,List.nodup_cons] at hn
  simp only[mdel,mget]
  by_cases h:a=e.2.1
  ·rw[if_pos h]
   by_cases hc:c=a
   ·rw[if_pos hc,mget_none.2 (by rw[hc,h];exact hn.1)]
   ·rw[if_neg hc,if_neg (by rw[←h];exact hc)]
  ·rw[if_neg h]
   simp only[mget]
   by_cases hc:c=e.2.1
   ·rw[if_pos hc,if_pos hc,if_neg (by rw[hc];exact fun e'=>h e'.symm)]
   ·rw[if_neg hc,if_neg hc,zk7 hn.2]
def unsG {α β:Type} (es:List (Nat × α × β)) (seen:List Nat):Nat:=(es.filter fun e=>!seen.contains e.1).length
theorem zk10 {α β:Type} {es:List (Nat × α × β)} {seen:List Nat} {e:Nat × α × β} (he:e∈es) (hn:e.1∉seen):unsG es (seen++[e.1]) < unsG es seen:=by
 unfold unsG
 have h1:(es.filter fun x=>!(seen++[e.1]).contains x.1)=(es.filter fun x=>!seen.contains x.1).filter fun x=>!decide (x.1=e.1):=by
  rw[List.filter_filter]
  refine List.filter_congr fun x _=>?_
  simp[Bool.and_comm]
 rw[h1]
 have h2:e∈es.filter fun x=>!seen.contains x.1:=List.mem_filter.2 ⟨he,by simpa using hn⟩
 refine Nat.lt_of_le_of_ne (List.length_filter_le _ _) fun h3=>?_
 have h4:=(List.length_filter_eq_length_iff.1 h3) e h2
 simp at h4
theorem zC11 {α β:Type} {x y:Nat × α × β}:∀{l:List (Nat × α × β)},(l.map (·.1)).Nodup→x∈l→y∈l→x.1=y.1→x=y
 | [],_,h,_,_=>by cases h
 | z :: l,hn,hx,hy,he=>by
  rw[List.map_cons,List.nodup_cons] at hn
  obtain⟨h1,h2⟩:=hn
  rcases List.mem_cons.1 hx with hx|hx
  ·rcases List.mem_cons.1 hy with hy|hy
   ·rw[hx,hy]
   ·exact absurd (List.mem_map.2 ⟨y,hy,by rw[←he,hx]⟩) h1
  ·rcases List.mem_cons.1 hy with hy|hy
   ·exact absurd (List.mem_map.2 ⟨x,hx,by rw[he,hy]⟩) h1
   ·exact zC11 h2 hx hy he
end Go.Proofs.YtophoepbedlhjaaGreatDoor
