/- Books of jobs, by value: inUse, refusal, note. -/
import Derived.Test.YtophoepbedlhjaaGreatDoorQbd
import Derived.Test.YtophoepbedlhjaaGreatDoorQba
import Derived.Test.YtophoepbedlhjaaGreatDoorQax
import Derived.Test.YtophoepbedlhjaaGreatDoorQas
set_option linter.unusedSimpArgs false
set_option linter.unusedVariables false
namespace Go.Proofs.YtophoepbedlhjaaGreatDoor
open Go Go.RowKit
set_option maxRecDepth 100000
abbrev ptrV (b:Nat):Value:=.pointer (some ⟨b,0,none⟩)
abbrev pV (b:Nat):AV:=.c (.s (ptrV b))
section
variable {P:Program} {N:Nat} {E:Env} {F:Fm} {H:List OB} {o:Oper} {t yt:TypeId} {x y:Operand} {K:Fm→List OB→Prop} {Q:Exit→Fm→List OB→Prop}
theorem zZ3 {i b:Nat} (hx:F.lookup i=some (.p b 0 0)) (h:∀B:Nat,K ((i,pV B) :: F) (H++[.eqv (.p b 0 0) (ptrV B)])):Wk N E F H K:=fun S ρ a w hR=>by
 obtain⟨h1,h2⟩:=hR.fr i _ hx
 have h4:=hR.eqv h2
 cases h2 with
 | p h0 h3=>
  obtain⟨B,hB⟩:=Option.isSome_iff_exists.1 h3
  have hd:(AV.p b 0 0).den ρ H=ptrV B:=by simp[AV.den,hB]
  rw[hd] at h4 h1
  refine⟨S,_,_,_,h B,h4.df,h4.sz,fun j y hj=>?_,h4.hp,h4.st,h4.nw,h4.nS,h4.pw,h4.ln,h4.pn⟩
  rw[List.lookup_cons] at hj
  split at hj
  ·rename_i he2
   obtain rfl:j=i:=by simpa using he2
   injection hj with hj
   subst hj
   exact⟨h1,.c (.s _)⟩
  ·exact h4.fr j y hj
theorem zW17 {i b:Nat} {c:Code} (hx:F.lookup i=some (.p b 0 0)) (h:∀B:Nat,AW P N E c ((i,pV B) :: F) (H++[.eqv (.p b 0 0) (ptrV B)]) Q):AW P N E c F H Q:=
 zQ4 (zZ3 (K:=fun F' H'=>∃B,F'=(i,pV B) :: F∧H'=H++[.eqv (.p b 0 0) (ptrV B)]) hx fun B=>⟨B,rfl,rfl⟩) fun F' H' ⟨B,h1,h2⟩=>by subst h1;subst h2;exact h B
theorem zm13 {ops:Array Oper} {i b:Nat} {l:List Oper} (hx:F.lookup i=some (.p b 0 0)) (h:∀B:Nat,AL P N E ops l ((i,pV B) :: F) (H++[.eqv (.p b 0 0) (ptrV B)]) Q):AL P N E ops l F H Q:=
 zD18 (zZ3 (K:=fun F' H'=>∃B,F'=(i,pV B) :: F∧H'=H++[.eqv (.p b 0 0) (ptrV B)]) hx fun B=>⟨B,rfl,rfl⟩) fun F' H' ⟨B,h1,h2⟩=>by subst h1;subst h2;exact h B
theorem zi13 {ops:Array Oper} {i b:Nat} {L:List (Nat × Option (List Nat))} (hx:F.lookup i=some (.p b 0 0)) (h:∀B:Nat,AT P N E ops L ((i,pV B) :: F) (H++[.eqv (.p b 0 0) (ptrV B)]) Q):AT P N E ops L F H Q:=
 zz18 (zZ3 (K:=fun F' H'=>∃B,F'=(i,pV B) :: F∧H'=H++[.eqv (.p b 0 0) (ptrV B)]) hx fun B=>⟨B,rfl,rfl⟩) fun F' H' ⟨B,h1,h2⟩=>by subst h1;subst h2;exact h B
theorem zl13 {ops:Array Oper} {i b n0:Nat} {ps:List Plan} (hx:F.lookup i=some (.p b 0 0)) (h:∀B:Nat,AM P N E ops n0 ps ((i,pV B) :: F) (H++[.eqv (.p b 0 0) (ptrV B)]) Q):AM P N E ops n0 ps F H Q:=
 zB18 (zZ3 (K:=fun F' H'=>∃B,F'=(i,pV B) :: F∧H'=H++[.eqv (.p b 0 0) (ptrV B)]) hx fun B=>⟨B,rfl,rfl⟩) fun F' H' ⟨B,h1,h2⟩=>by subst h1;subst h2;exact h B
end
def encPt:Enc Value:=⟨fun v=>v,fun v=>.c (.s v),fun v ρ H=>rfl,fun v w S ρ H=>.c (.s _)⟩
abbrev mSP (l:List (Nat × List UInt8 × Value)) (ck:Nat):OB:=mpO encSt encPt l ck
def jlF:Nat→List Jb→List Nat→List (Nat × List UInt8 × Value)
 | i,j :: js,b :: bl=>(i,j.nm,ptrV b) :: jlF (i+1) js bl
 | _,_,_=>[]
def plF {α:Type} (c:α→List CV):List α→List Nat→List PE
 | j :: js,b :: bl=>.bx (ptrV b) (c j) :: plF c js bl
 | _,_=>[]
theorem zm10:∀{i:Nat} {js:List Jb} {bl:List Nat} {j:Jb} {b:Nat},bl.length=js.length→jlF i (js++[j]) (bl++[b])=jlF i js bl++[(i+js.length,j.nm,ptrV b)]
 | i,[],[],j,b,_=>rfl
 | i,x :: js,c :: bl,j,b,h=>by
  simp only[List.cons_append,jlF]
  rw[zm10 (by simpa using h)]
  simp only[List.length_cons]
  rw[show i+1+js.length=i+(js.length+1) by omega]
 | i,[],_ :: _,_,_,h=>by simp at h
 | i,_ :: _,[],_,_,h=>by simp at h
theorem zZ9 {α:Type} {c:α→List CV}:∀{js:List α} {bl:List Nat} {j:α} {b:Nat},bl.length=js.length→plF c (js++[j]) (bl++[b])=plF c js bl++[.bx (ptrV b) (c j)]
 | [],[],j,b,_=>rfl
 | x :: js,d :: bl,j,b,h=>by
  simp only[List.cons_append,plF]
  rw[zZ9 (by simpa using h)]
 | [],_ :: _,_,_,h=>by simp at h
 | _ :: _,[],_,_,h=>by simp at h
theorem zf9:∀{js:List Jb} {bl:List Nat} {i k0:Nat} {s:List UInt8},bl.length=js.length→(fndI (fun j=>decide (s=j.nm)) js k0=none→mget (jlF i js bl) s=none)∧∀k,fndI (fun j=>decide (s=j.nm)) js k0=some k→k0≤k∧∃b,bl[k - k0]?=some b∧mget (jlF i js bl) s=some (ptrV b)
 | [],[],i,k0,s,_=>⟨fun _=>rfl,fun k h=>by cases h⟩
 | j :: js,b :: bl,i,k0,s,h=>by
  simp only[fndI,jlF,mget]
  by_cases hs:s=j.nm
  ·rw[if_pos (by simpa using hs),if_pos hs]
   exact⟨fun h=>(by cases h),fun k hk=>by injection hk with hk;subst hk;exact⟨Nat.le_refl _,b,by simp,rfl⟩⟩
  ·rw[if_neg (by simpa using hs),if_neg hs]
   obtain⟨h1,h2⟩:=zf9 (js:=js) (bl:=bl) (i:=i+1) (k0:=k0+1) (s:=s) (by simpa using h)
   refine⟨h1,fun k hk=>?_⟩
   obtain⟨h3,c,h4,h5⟩:=h2 k hk
   exact⟨by omega,c,by rw[show k - k0=(k - (k0+1))+1 by omega,List.getElem?_cons_succ];exact h4,h5⟩
 | [],_ :: _,_,_,_,h=>by simp at h
 | _ :: _,[],_,_,_,h=>by simp at h
theorem zF5 {js:List Jb} {bl:List Nat} {s:List UInt8} (h:bl.length=js.length) (hn:nmI js s=none):mget (jlF 0 js bl) s=none:=(zf9 h).1 hn
theorem zm7 {js:List Jb} {bl:List Nat} {s:List UInt8} {k:Nat} (h:bl.length=js.length) (hn:nmI js s=some k):∃b,bl[k]?=some b∧mget (jlF 0 js bl) s=some (ptrV b):=by
 obtain⟨_,b,h1,h2⟩:=(zf9 (i:=0) h).2 k hn
 exact⟨b,by simpa using h1,h2⟩
theorem zS6 {α:Type} {c:α→List CV}:∀{js:List α} {bl:List Nat} {k:Nat} {j:α} {b:Nat},js[k]?=some j→bl[k]?=some b→(plF c js bl)[k]?=some (.bx (ptrV b) (c j))
 | [],_,_,_,_,h,_=>by simp at h
 | _ :: _,[],_,_,_,_,h=>by simp at h
 | x :: js,d :: bl,0,j,b,h1,h2=>by
  simp only[List.getElem?_cons_zero,Option.some.injEq] at h1 h2
  subst h1;subst h2;rfl
 | x :: js,d :: bl,k+1,j,b,h1,h2=>by
  simp only[List.getElem?_cons_succ] at h1 h2
  simp only[plF,List.getElem?_cons_succ]
  exact zS6 h1 h2
theorem zi12 {α:Type} {c:α→List CV} {f:α→α}:∀{js:List α} {bl:List Nat} {k:Nat} {j:α} {b:Nat},js[k]?=some j→bl[k]?=some b→(plF c js bl).set k (.bx (ptrV b) (c (f j)))=plF c (js.modify k f) bl
 | [],_,_,_,_,h,_=>by simp at h
 | _ :: _,[],_,_,_,_,h=>by simp at h
 | x :: js,d :: bl,0,j,b,h1,h2=>by
  simp only[List.getElem?_cons_zero,Option.some.injEq] at h1 h2
  subst h1;subst h2;rfl
 | x :: js,d :: bl,k+1,j,b,h1,h2=>by
  simp only[List.getElem?_cons_succ] at h1 h2
  simp only[plF,List.set_cons_succ,List.modify_succ_cons]
  rw[zi12 h1 h2]
theorem zu3 {f:Jb→Jb} (hf:∀j,(f j).nm=j.nm):∀{js:List Jb} {bl:List Nat} {i k:Nat},jlF i (js.modify k f) bl=jlF i js bl
 | [],_,_,k=>by simp
 | _ :: _,[],_,k=>by cases k <;> rfl
 | x :: js,d :: bl,i,0=>by simp[jlF,hf]
 | x :: js,d :: bl,i,k+1=>by simp only[List.modify_succ_cons,jlF];rw[zu3 hf]
def stW (s:Int):List UInt8:=if s=0 then [114,117,110,115] else if s=1 then [100,111,110,101] else [102,97,105,108,101,100]
section
variable {N:Nat} {E:Env} {F:Fm} {H:List OB} {o:Oper} {b ck:Nat} {k:List UInt8}
theorem zJ4 {x ix:Operand} {l:List (Nat × List UInt8 × Value)} {q:Value} (hq:(mget l k).getD (.pointer none)=q) (ho:o.op = .lookup 111 x ix false) (hx:ev F x=some (.mp b)) (hH:H[b]?=some (mSP l ck)) (hi:ev F ix=some (.c (T k))):Rd Tryz.prog N E o F H (.c (.s q)):=by
 have:=zh4 (N:=N) (E:=E) (ke:=encSt) (ve:=encPt) (k:=k) (z:=.pointer none) keySt ho Tryz.underlying111 (by kernel_rfl) hx hH hi (fun ρ H=>encSt.den k ρ H)
 rwa [hq] at this
theorem zO17 {x ix y:Operand} {l:List (Nat × List UInt8 × Value)} {z:Value} (ho:o.op = .mapUpdate 111 x ix y) (hd:o.dst=none) (hx:ev F x=some (.mp b)) (hH:H[b]?=some (mSP l ck)) (hi:ev F ix=some (.c (T k))) (hy:ev F y=some (.c (.s z))) :
    Ef Tryz.prog N E o F H fun F' H'=>F'=F∧H'=H.set b (mSP (mset ck k z l) (mclk ck k l)):=
 zl3 (ke:=encSt) (ve:=encPt) (k:=k) (z:=z) keySt ho hd Tryz.underlying111 hx hH hi (fun ρ H=>encSt.den k ρ H) hy (fun ρ H=>encPt.den z ρ H)
end
end Go.Proofs.YtophoepbedlhjaaGreatDoor
namespace Go.Proofs.YtophoepbedlhjaaGreatDoor
open Go Go.RowKit
section
variable {P:Program} {N:Nat} {E:Env} {F:Fm} {H:List OB} {o:Oper}
end
end Go.Proofs.YtophoepbedlhjaaGreatDoor
-- NEWM
namespace Go.Proofs.YtophoepbedlhjaaGreatDoor
open Go Go.RowKit
set_option maxRecDepth 100000
def jbP (j:Jb):List CV:=[T (stW j.st),I j.ly.length,I j.all,I j.beg,I (j.ly.getLast?.getD 0),I j.en]
def RunOk (js:List Jb) (rl:List (Nat × List UInt8 × List UInt8)):Prop:=∀s,mget rl s=(runI js s).bind fun k=>js[k]?.map Jb.nm
theorem zx12 (js:List Jb) (bl:List Nat) (rl:List (Nat × List UInt8 × List UInt8)) (rk:Nat) (sp:List (Nat × List UInt8 × List UInt8)) (spk:Nat) (lf:List (Nat × List UInt8 × Int)) (lfk:Nat) (us:List (Nat × List UInt8 × Int)) (usk:Nat) (c1 c2:Nat) (R1 R2:List Int) (s:List UInt8) (hok:MapOk sp spk):ACallsX true Tryz.prog 206 [.p 0 0 0,.c (T s)] [.box [.mp 1,.mp 2,.mp 3,.mp 4,.mp 5,.o 6 0 R1.length c1,.o 7 0 R2.length c2],mSP (jlF 0 js bl) js.length,mSS rl rk,mSS sp spk,mSI lf lfk,mSI us usk,.arr 3 1 c1 (nR R1),.arr 31 1 c2 (nR R2),.pool (plF jbP js bl)] fun u H=>u = .c (B (inUse sp s))∧H = [.box [.mp 1,.mp 2,.mp 3,.mp 4,.mp 5,.o 6 0 R1.length c1,.o 7 0 R2.length c2],mSP (jlF 0 js bl) js.length,mSS rl rk,mSS sp spk,mSI lf lfk,mSI us usk,.arr 3 1 c1 (nR R1),.arr 31 1 c2 (nR R2),.pool (plF jbP js bl)]:=by
 refine zG true (N:=19) Tryz.func206 rfl rfl (by simp) fun E hE hP=>?_
 refine WA ?_
 refine ZR ?_
 iterate 4 refine WX1 ?_
 refine ze rfl (zv10 (ke:=encSt) (ve:=encSt) (l:=sp) (ck:=spk) rfl rfl (by decide) Tryz.underlying110 rfl rfl) ?_
 rintro _ _ ⟨rfl,rfl⟩
 refine WE ?_
 refine zq (fun m F H=>∃(seen:List Nat),unsG sp seen=m∧(∀e∈sp,e.1∈seen→e.2.2≠s)∧F = [(1,.c (T s)),(11,.p 9 0 0)]∧H = [.box [.mp 1,.mp 2,.mp 3,.mp 4,.mp 5,.o 6 0 R1.length c1,.o 7 0 R2.length c2],mSP (jlF 0 js bl) js.length,mSS rl rk,mSS sp spk,mSI lf lfk,mSI us usk,.arr 3 1 c1 (nR R1),.arr 31 1 c2 (nR R2),.pool (plF jbP js bl),.itr 3 spk seen spk]) ?_ ?_
 ·refine wkg [some 0,some 1,some 2,some 3,some 4,some 5,some 6,some 7,some 8,some 9] (fun _=>[(1,.c (T s)),(11,.p 9 0 0)]) (fun _=>[.box [.mp 1,.mp 2,.mp 3,.mp 4,.mp 5,.o 6 0 R1.length c1,.o 7 0 R2.length c2],mSP (jlF 0 js bl) js.length,mSS rl rk,mSS sp spk,mSI lf lfk,mSI us usk,.arr 3 1 c1 (nR R1),.arr 31 1 c2 (nR R2),.pool (plF jbP js bl),.itr 3 spk [] spk]) (fun _=>?_)
  exact⟨_,[],rfl,fun e _ h=>(by cases h),rfl,rfl⟩
 rintro m F H ⟨seen,hm,hs,rfl,rfl⟩
 refine ZR ?_
 refine ze rfl (zK12 (ke:=encSt) (ve:=encSt) (l:=sp) rfl rfl (by decide) rfl rfl rfl hok.hb (Nat.le_refl _)) ?_
 rintro _ _ (⟨⟨eb,ek,es⟩,he,hne,rfl,rfl⟩|⟨hall,rfl,rfl⟩)
 all_goals (refine WE ?_)
 ·refine zb rfl ?_
  have hlt:=zE11 he hne
  obtain⟨q,hq⟩:∃q,decide (es=s)=q:=⟨_,rfl⟩
  refine ZR ?_
  refine ZA (zS9 (ke:=encSt) (ve:=encSt) (e:=(eb,ek,es)) rfl rfl rfl rfl he hok.nb) ?_
  refine WE ?_
  refine ZR ?_
  iterate 2 refine WX1 ?_
  refine ZA (zJ (a:=es) (b:=s) hq rfl Tryz.underlying9 rfl rfl) ?_
  refine WE ?_
  cases q with
  | true=>
   refine zb rfl ?_
   refine WA ?_
   have hi:inUse sp s=true:=List.any_eq_true.2 ⟨_,he,hq⟩
   exact arg1 [some 0,some 1,some 2,some 3,some 4,some 5,some 6,some 7,some 8] [.box [.mp 1,.mp 2,.mp 3,.mp 4,.mp 5,.o 6 0 R1.length c1,.o 7 0 R2.length c2],mSP (jlF 0 js bl) js.length,mSS rl rk,mSS sp spk,mSI lf lfk,mSI us usk,.arr 3 1 c1 (nR R1),.arr 31 1 c2 (nR R2),.pool (plF jbP js bl)] (q:=⟨by rw[hi],rfl⟩)
  | false=>
   refine za rfl ?_
   refine ZZ ?_
   refine wkg [some 0,some 1,some 2,some 3,some 4,some 5,some 6,some 7,some 8,some 9] (fun _=>[(1,.c (T s)),(11,.p 9 0 0)]) (fun _=>[.box [.mp 1,.mp 2,.mp 3,.mp 4,.mp 5,.o 6 0 R1.length c1,.o 7 0 R2.length c2],mSP (jlF 0 js bl) js.length,mSS rl rk,mSS sp spk,mSI lf lfk,mSI us usk,.arr 3 1 c1 (nR R1),.arr 31 1 c2 (nR R2),.pool (plF jbP js bl),.itr 3 spk (seen++[eb]) spk]) (fun _=>?_)
   refine⟨_,by rw[←hm];exact hlt,seen++[eb],rfl,fun e he2 h=>?_,rfl,rfl⟩
   rcases List.mem_append.1 h with h|h
   ·exact hs e he2 h
   ·rw[List.mem_singleton] at h
    have:=zb13 hok.nb he2 he h
    subst this
    exact of_decide_eq_false hq
 ·refine za rfl ?_
  have hi:inUse sp s=false:=by
   unfold inUse
   rw[List.any_eq_false]
   intro e he
   simpa using hs e he (hall e he)
  refine WA ?_
  exact arg1 [some 0,some 1,some 2,some 3,some 4,some 5,some 6,some 7,some 8] [.box [.mp 1,.mp 2,.mp 3,.mp 4,.mp 5,.o 6 0 R1.length c1,.o 7 0 R2.length c2],mSP (jlF 0 js bl) js.length,mSS rl rk,mSS sp spk,mSI lf lfk,mSI us usk,.arr 3 1 c1 (nR R1),.arr 31 1 c2 (nR R2),.pool (plF jbP js bl)] (q:=⟨by rw[hi],rfl⟩)
set_option maxHeartbeats 4000000 in
theorem zR11 (js:List Jb) (bl:List Nat) (rl:List (Nat × List UInt8 × List UInt8)) (rk:Nat) (sp:List (Nat × List UInt8 × List UInt8)) (spk:Nat) (lf:List (Nat × List UInt8 × Int)) (lfk:Nat) (us:List (Nat × List UInt8 × Int)) (usk:Nat) (c1 c2:Nat) (R1 R2:List Int) (x:Nt) (hJ:JsOk js) (hbl:bl.length=js.length) (hrl:RunOk js rl) (hsp:MapOk sp spk):ACallsX true Tryz.prog 132 [.p 0 0 0,noA x] [.box [.mp 1,.mp 2,.mp 3,.mp 4,.mp 5,.o 6 0 R1.length c1,.o 7 0 R2.length c2],mSP (jlF 0 js bl) js.length,mSS rl rk,mSS sp spk,mSI lf lfk,mSI us usk,.arr 3 1 c1 (nR R1),.arr 31 1 c2 (nR R2),.pool (plF jbP js bl)] fun u H=>u = .c (I (rfE ⟨js,sp,spk,lf,lfk,us,usk⟩ x))∧H = [.box [.mp 1,.mp 2,.mp 3,.mp 4,.mp 5,.o 6 0 R1.length c1,.o 7 0 R2.length c2],mSP (jlF 0 js bl) js.length,mSS rl rk,mSS sp spk,mSI lf lfk,mSI us usk,.arr 3 1 c1 (nR R1),.arr 31 1 c2 (nR R2),.pool (plF jbP js bl)]:=by
 obtain⟨st,no,at_,kn,pr,jb,sn,n,of_,ot⟩:=x
 show ACallsX _ _ _ [.p 0 0 0,.a [.c (T st),.c (I no),.c (I at_),.c (I kn),.c (T pr),.c (T jb),.c (T sn),.c (I n),.c (T of_),.c (I ot)]] _ _
 have hpx:PoolIx 8:=⟨trivial⟩
 refine zG true (N:=113) Tryz.func132 rfl rfl (by simp) fun E hE hP=>?_
 refine WA ?_
 have hrp:=hrl pr
 rcases hrun:runI js pr with _|k
 ·rw[hrun] at hrp
  have hn1:(mget rl pr).getD [] = []:=by rw[hrp];rfl
  have hn2:(mget rl pr).isSome=false:=by rw[hrp];rfl
  have hj:(mget (jlF 0 js bl) []).getD (.pointer none) = .pointer none:=by rw[zF5 hbl (zh9 fun j hj=>by simpa using (hJ.ne j hj).symm)];rfl
  refine ZZ ?_
  refine zd [(0,none),(1,none),(2,none),(3,none),(4,none),(5,none),(6,none),(7,none),(8,none),(9,none),(10,none),(11,none)] zn (by kernel_rfl) ?_
  iterate 6 refine WX2 ?_
  refine ZT rfl (zr3 (k:=pr) (l:=rl) hn1 hn2 rfl rfl rfl rfl) ?_
  refine WQ ?_
  refine ZR ?_
  iterate 5 refine WX1 ?_
  refine ZA (zJ4 (k:=[]) (l:=(jlF 0 js bl)) hj rfl rfl rfl rfl) ?_
  refine WE ?_
  refine WA ?_
  by_cases h1:kn=1
  ·subst h1
   refine WA ?_
   refine zb rfl ?_
   refine ZZ ?_
   rcases hnj:nmI js jb with _|q
   ·have hjb:(mget (jlF 0 js bl) jb).getD (.pointer none) = .pointer none:=by rw[zF5 hbl hnj];rfl
    refine ZZ ?_
    refine zd [(0,none),(1,none),(2,none),(3,none),(4,none),(5,none),(6,none),(7,none),(8,none)] zn (by kernel_rfl) ?_
    iterate 6 refine WX2 ?_
    refine ZT rfl (zJ4 (k:=jb) (l:=(jlF 0 js bl)) hjb rfl rfl rfl rfl) ?_
    refine WQ ?_
    refine za rfl ?_
    refine WA ?_
    refine za rfl ?_
    refine WA ?_
    exact arg1 [some 0,some 1,some 2,some 3,some 4,some 5,some 6,some 7,some 8] [.box [.mp 1,.mp 2,.mp 3,.mp 4,.mp 5,.o 6 0 R1.length c1,.o 7 0 R2.length c2],mSP (jlF 0 js bl) js.length,mSS rl rk,mSS sp spk,mSI lf lfk,mSI us usk,.arr 3 1 c1 (nR R1),.arr 31 1 c2 (nR R2),.pool (plF jbP js bl)] (q:=⟨congrArg (fun z=>AV.c (I z)) (by simp[rfE,runJ,hrun,hnj]),rfl⟩)
   ·obtain⟨bq,hbq1,hbq2⟩:=zm7 hbl hnj
    have hjb:(mget (jlF 0 js bl) jb).getD (.pointer none)=ptrV bq:=by rw[hbq2];rfl
    refine ZZ ?_
    refine zd [(0,none),(1,none),(2,none),(3,none),(4,none),(5,none),(6,none),(7,none),(8,none)] zn (by kernel_rfl) ?_
    iterate 6 refine WX2 ?_
    refine ZT rfl (zJ4 (k:=jb) (l:=(jlF 0 js bl)) hjb rfl rfl rfl rfl) ?_
    refine WQ ?_
    refine zb rfl ?_
    refine WA ?_
    exact arg1 [some 0,some 1,some 2,some 3,some 4,some 5,some 6,some 7,some 8] [.box [.mp 1,.mp 2,.mp 3,.mp 4,.mp 5,.o 6 0 R1.length c1,.o 7 0 R2.length c2],mSP (jlF 0 js bl) js.length,mSS rl rk,mSS sp spk,mSI lf lfk,mSI us usk,.arr 3 1 c1 (nR R1),.arr 31 1 c2 (nR R2),.pool (plF jbP js bl)] (q:=⟨congrArg (fun z=>AV.c (I z)) (by simp[rfE,runJ,hrun,hnj]),rfl⟩)
  by_cases h2:kn=2
  ·subst h2
   refine WA ?_
   refine za rfl ?_
   refine WA ?_
   refine zb rfl ?_
   refine WA ?_
   refine zb rfl ?_
   refine WA ?_
   exact arg1 [some 0,some 1,some 2,some 3,some 4,some 5,some 6,some 7,some 8] [.box [.mp 1,.mp 2,.mp 3,.mp 4,.mp 5,.o 6 0 R1.length c1,.o 7 0 R2.length c2],mSP (jlF 0 js bl) js.length,mSS rl rk,mSS sp spk,mSI lf lfk,mSI us usk,.arr 3 1 c1 (nR R1),.arr 31 1 c2 (nR R2),.pool (plF jbP js bl)] (q:=⟨congrArg (fun z=>AV.c (I z)) (by simp[rfE,runJ,hrun]),rfl⟩)
  by_cases h3:kn=3
  ·subst h3
   refine WA ?_
   refine za rfl ?_
   refine WA ?_
   refine za rfl ?_
   refine WA ?_
   refine zb rfl ?_
   refine WA ?_
   refine zb rfl ?_
   refine WA ?_
   exact arg1 [some 0,some 1,some 2,some 3,some 4,some 5,some 6,some 7,some 8] [.box [.mp 1,.mp 2,.mp 3,.mp 4,.mp 5,.o 6 0 R1.length c1,.o 7 0 R2.length c2],mSP (jlF 0 js bl) js.length,mSS rl rk,mSS sp spk,mSI lf lfk,mSI us usk,.arr 3 1 c1 (nR R1),.arr 31 1 c2 (nR R2),.pool (plF jbP js bl)] (q:=⟨congrArg (fun z=>AV.c (I z)) (by simp[rfE,runJ,hrun]),rfl⟩)
  by_cases h4:kn=4
  ·subst h4
   refine WA ?_
   refine za rfl ?_
   refine WA ?_
   refine za rfl ?_
   refine WA ?_
   refine za rfl ?_
   refine WA ?_
   refine zb rfl ?_
   refine WA ?_
   refine zb rfl ?_
   refine WA ?_
   exact arg1 [some 0,some 1,some 2,some 3,some 4,some 5,some 6,some 7,some 8] [.box [.mp 1,.mp 2,.mp 3,.mp 4,.mp 5,.o 6 0 R1.length c1,.o 7 0 R2.length c2],mSP (jlF 0 js bl) js.length,mSS rl rk,mSS sp spk,mSI lf lfk,mSI us usk,.arr 3 1 c1 (nR R1),.arr 31 1 c2 (nR R2),.pool (plF jbP js bl)] (q:=⟨congrArg (fun z=>AV.c (I z)) (by simp[rfE,runJ,hrun]),rfl⟩)
  by_cases h5:kn=5
  ·subst h5
   refine WA ?_
   refine za rfl ?_
   refine WA ?_
   refine za rfl ?_
   refine WA ?_
   refine za rfl ?_
   refine WA ?_
   refine za rfl ?_
   refine WA ?_
   refine zb rfl ?_
   refine ZZ ?_
   obtain⟨q,hiu⟩:∃q,inUse sp sn=q:=⟨_,rfl⟩
   refine WR ?_
   refine ze rfl (zQ [0,1,2,3,4,5,6,7,8] (fun _=>[.box [.mp 1,.mp 2,.mp 3,.mp 4,.mp 5,.o 6 0 R1.length c1,.o 7 0 R2.length c2],mSP (jlF 0 js bl) js.length,mSS rl rk,mSS sp spk,mSI lf lfk,mSI us usk,.arr 3 1 c1 (nR R1),.arr 31 1 c2 (nR R2),.pool (plF jbP js bl)]) false (fun _=>zx12 js bl rl rk sp spk lf lfk us usk c1 c2 R1 R2 sn hsp) rfl .fn rfl (by decide) (by kernel_rfl) rfl ZCH (by decide) ZCH (by simp)) ?_
   rintro F1 H1 ⟨_,_,_,_,⟨rfl,rfl⟩,hF,hH⟩
   rw[zF] at hF;rw[hiu] at hF;(refine NSU hF hH ?_;clear hF hH;rintro rfl rfl)
   refine WE ?_
   cases q with
   | true=>
    refine zb rfl ?_
    refine WA ?_
    exact arg1 [some 0,some 1,some 2,some 3,some 4,some 5,some 6,some 7,some 8] [.box [.mp 1,.mp 2,.mp 3,.mp 4,.mp 5,.o 6 0 R1.length c1,.o 7 0 R2.length c2],mSP (jlF 0 js bl) js.length,mSS rl rk,mSS sp spk,mSI lf lfk,mSI us usk,.arr 3 1 c1 (nR R1),.arr 31 1 c2 (nR R2),.pool (plF jbP js bl)] (q:=⟨congrArg (fun z=>AV.c (I z)) (by simp[rfE,hiu]),rfl⟩)
   | false=>
    refine za rfl ?_
    refine WA ?_
    exact arg1 [some 0,some 1,some 2,some 3,some 4,some 5,some 6,some 7,some 8] [.box [.mp 1,.mp 2,.mp 3,.mp 4,.mp 5,.o 6 0 R1.length c1,.o 7 0 R2.length c2],mSP (jlF 0 js bl) js.length,mSS rl rk,mSS sp spk,mSI lf lfk,mSI us usk,.arr 3 1 c1 (nR R1),.arr 31 1 c2 (nR R2),.pool (plF jbP js bl)] (q:=⟨congrArg (fun z=>AV.c (I z)) (by simp[rfE,hiu]),rfl⟩)
  by_cases h6:kn=6
  ·subst h6
   refine WA ?_
   refine za rfl ?_
   refine WA ?_
   refine za rfl ?_
   refine WA ?_
   refine za rfl ?_
   refine WA ?_
   refine za rfl ?_
   refine WA ?_
   refine za rfl ?_
   refine WA ?_
   refine zb rfl ?_
   refine ZZ ?_
   rcases hsg:mget sp pr with _|kk
   ·have hs1:(mget sp pr).getD [] = []:=by rw[hsg];rfl
    have hs2:(mget sp pr).isSome=false:=by rw[hsg];rfl
    refine ZZ ?_
    refine zd [(0,none),(1,none),(2,none),(3,none),(4,none),(5,none),(6,none),(7,none),(8,none),(9,none),(10,none),(11,none)] zn (by kernel_rfl) ?_
    iterate 6 refine WX2 ?_
    refine ZT rfl (zr3 (k:=pr) (l:=sp) hs1 hs2 rfl rfl rfl rfl) ?_
    refine WQ ?_
    refine WA ?_
    refine zb rfl ?_
    refine WA ?_
    exact arg1 [some 0,some 1,some 2,some 3,some 4,some 5,some 6,some 7,some 8] [.box [.mp 1,.mp 2,.mp 3,.mp 4,.mp 5,.o 6 0 R1.length c1,.o 7 0 R2.length c2],mSP (jlF 0 js bl) js.length,mSS rl rk,mSS sp spk,mSI lf lfk,mSI us usk,.arr 3 1 c1 (nR R1),.arr 31 1 c2 (nR R2),.pool (plF jbP js bl)] (q:=⟨congrArg (fun z=>AV.c (I z)) (by simp[rfE,hsg]),rfl⟩)
   ·have hs1:(mget sp pr).getD []=kk:=by rw[hsg];rfl
    have hs2:(mget sp pr).isSome=true:=by rw[hsg];rfl
    obtain⟨lv,hlf⟩:∃q,(mget lf kk).getD 0=q:=⟨_,rfl⟩
    refine ZZ ?_
    refine zd [(0,none),(1,none),(2,none),(3,none),(4,none),(5,none),(6,none),(7,none),(8,none),(9,none),(10,none),(11,none)] zn (by kernel_rfl) ?_
    iterate 6 refine WX2 ?_
    refine ZT rfl (zr3 (k:=pr) (l:=sp) hs1 hs2 rfl rfl rfl rfl) ?_
    refine WQ ?_
    refine WA ?_
    refine za rfl ?_
    refine ZZ ?_
    refine zd [(0,none),(1,none),(2,none),(3,none),(4,none),(5,none),(6,none),(7,none),(8,none),(9,none)] zn (by kernel_rfl) ?_
    iterate 5 refine WX2 ?_
    refine ZT rfl (zm2 (k:=kk) (l:=lf) hlf rfl rfl rfl rfl) ?_
    refine WQ ?_
    refine zl rfl (fun g1=>?_) (fun g1=>?_)
    ·refine WA ?_
     exact arg1 [some 0,some 1,some 2,some 3,some 4,some 5,some 6,some 7,some 8] [.box [.mp 1,.mp 2,.mp 3,.mp 4,.mp 5,.o 6 0 R1.length c1,.o 7 0 R2.length c2],mSP (jlF 0 js bl) js.length,mSS rl rk,mSS sp spk,mSI lf lfk,mSI us usk,.arr 3 1 c1 (nR R1),.arr 31 1 c2 (nR R2),.pool (plF jbP js bl)] (q:=⟨congrArg (fun z=>AV.c (I z)) (by simp[rfE,hsg,hlf,g1]),rfl⟩)
    refine WA ?_
    exact arg1 [some 0,some 1,some 2,some 3,some 4,some 5,some 6,some 7,some 8] [.box [.mp 1,.mp 2,.mp 3,.mp 4,.mp 5,.o 6 0 R1.length c1,.o 7 0 R2.length c2],mSP (jlF 0 js bl) js.length,mSS rl rk,mSS sp spk,mSI lf lfk,mSI us usk,.arr 3 1 c1 (nR R1),.arr 31 1 c2 (nR R2),.pool (plF jbP js bl)] (q:=⟨congrArg (fun z=>AV.c (I z)) (by simp[rfE,hsg,hlf,g1]),rfl⟩)
  refine WA ?_
  refine za rfl ?_
  refine WA ?_
  refine za rfl ?_
  refine WA ?_
  refine za rfl ?_
  refine WA ?_
  refine za rfl ?_
  refine WA ?_
  refine za rfl ?_
  refine WA ?_
  refine za rfl ?_
  refine WA ?_
  exact arg1 [some 0,some 1,some 2,some 3,some 4,some 5,some 6,some 7,some 8] [.box [.mp 1,.mp 2,.mp 3,.mp 4,.mp 5,.o 6 0 R1.length c1,.o 7 0 R2.length c2],mSP (jlF 0 js bl) js.length,mSS rl rk,mSS sp spk,mSI lf lfk,mSI us usk,.arr 3 1 c1 (nR R1),.arr 31 1 c2 (nR R2),.pool (plF jbP js bl)] (q:=⟨congrArg (fun z=>AV.c (I z)) (by simp[rfE,h1,h2,h3,h4,h5,h6]),rfl⟩)
 ·obtain⟨j,hk,hjp,hjs⟩:=zl2 hrun
  rw[hrun] at hrp
  have hn1:(mget rl pr).getD []=j.nm:=by rw[hrp];simp[hk]
  have hn2:(mget rl pr).isSome=true:=by rw[hrp];simp[hk]
  obtain⟨b0,hb0,hb1⟩:=zm7 hbl (zA14 hJ hk)
  have hj:(mget (jlF 0 js bl) j.nm).getD (.pointer none)=ptrV b0:=by rw[hb1];rfl
  have hin:InPool k b0 (plF jbP js bl) [T (stW j.st),I j.ly.length,I j.all,I j.beg,I (j.ly.getLast?.getD 0),I j.en]:=⟨zS6 hk hb0⟩
  have hall:=hJ.all j (List.mem_of_getElem? hk)
  refine ZZ ?_
  refine zd [(0,none),(1,none),(2,none),(3,none),(4,none),(5,none),(6,none),(7,none),(8,none),(9,none),(10,none),(11,none)] zn (by kernel_rfl) ?_
  iterate 6 refine WX2 ?_
  refine ZT rfl (zr3 (k:=pr) (l:=rl) hn1 hn2 rfl rfl rfl rfl) ?_
  refine WQ ?_
  refine ZR ?_
  iterate 5 refine WX1 ?_
  refine ZA (zJ4 (k:=j.nm) (l:=(jlF 0 js bl)) hj rfl rfl rfl rfl) ?_
  refine WE ?_
  refine WA ?_
  by_cases h1:kn=1
  ·subst h1
   refine WA ?_
   refine zb rfl ?_
   refine ZZ ?_
   rcases hnj:nmI js jb with _|q
   ·have hjb:(mget (jlF 0 js bl) jb).getD (.pointer none) = .pointer none:=by rw[zF5 hbl hnj];rfl
    refine ZZ ?_
    refine zd [(0,none),(1,none),(2,none),(3,none),(4,none),(5,none),(6,none),(7,none),(8,none)] zn (by kernel_rfl) ?_
    iterate 6 refine WX2 ?_
    refine ZT rfl (zJ4 (k:=jb) (l:=(jlF 0 js bl)) hjb rfl rfl rfl rfl) ?_
    refine WQ ?_
    refine za rfl ?_
    refine WA ?_
    refine zb rfl ?_
    refine WA ?_
    exact arg1 [some 0,some 1,some 2,some 3,some 4,some 5,some 6,some 7,some 8] [.box [.mp 1,.mp 2,.mp 3,.mp 4,.mp 5,.o 6 0 R1.length c1,.o 7 0 R2.length c2],mSP (jlF 0 js bl) js.length,mSS rl rk,mSS sp spk,mSI lf lfk,mSI us usk,.arr 3 1 c1 (nR R1),.arr 31 1 c2 (nR R2),.pool (plF jbP js bl)] (q:=⟨congrArg (fun z=>AV.c (I z)) (by simp[rfE,runJ,hrun,hk,hnj]),rfl⟩)
   ·obtain⟨bq,hbq1,hbq2⟩:=zm7 hbl hnj
    have hjb:(mget (jlF 0 js bl) jb).getD (.pointer none)=ptrV bq:=by rw[hbq2];rfl
    refine ZZ ?_
    refine zd [(0,none),(1,none),(2,none),(3,none),(4,none),(5,none),(6,none),(7,none),(8,none)] zn (by kernel_rfl) ?_
    iterate 6 refine WX2 ?_
    refine ZT rfl (zJ4 (k:=jb) (l:=(jlF 0 js bl)) hjb rfl rfl rfl rfl) ?_
    refine WQ ?_
    refine zb rfl ?_
    refine WA ?_
    exact arg1 [some 0,some 1,some 2,some 3,some 4,some 5,some 6,some 7,some 8] [.box [.mp 1,.mp 2,.mp 3,.mp 4,.mp 5,.o 6 0 R1.length c1,.o 7 0 R2.length c2],mSP (jlF 0 js bl) js.length,mSS rl rk,mSS sp spk,mSI lf lfk,mSI us usk,.arr 3 1 c1 (nR R1),.arr 31 1 c2 (nR R2),.pool (plF jbP js bl)] (q:=⟨congrArg (fun z=>AV.c (I z)) (by simp[rfE,runJ,hrun,hk,hnj]),rfl⟩)
  by_cases h2:kn=2
  ·subst h2
   refine WA ?_
   refine za rfl ?_
   refine WA ?_
   refine zb rfl ?_
   refine WA ?_
   refine za rfl ?_
   refine ZZ ?_
   refine zd [(0,none),(1,none),(2,none),(3,none),(4,none),(5,none),(6,none),(7,none),(8,none)] zn (by kernel_rfl) ?_
   refine WQ ?_
   refine zl rfl (fun g1=>?_) (fun g1=>?_)
   ·refine WA ?_
    exact arg1 [some 0,some 1,some 2,some 3,some 4,some 5,some 6,some 7,some 8] [.box [.mp 1,.mp 2,.mp 3,.mp 4,.mp 5,.o 6 0 R1.length c1,.o 7 0 R2.length c2],mSP (jlF 0 js bl) js.length,mSS rl rk,mSS sp spk,mSI lf lfk,mSI us usk,.arr 3 1 c1 (nR R1),.arr 31 1 c2 (nR R2),.pool (plF jbP js bl)] (q:=⟨congrArg (fun z=>AV.c (I z)) (by simp[rfE,runJ,hrun,hk,g1]),rfl⟩)
   refine ZZ ?_
   refine zd [(0,none),(1,none),(2,none),(3,none),(4,none),(5,none),(6,none),(7,none)] zn (by kernel_rfl) ?_
   refine WQ ?_
   refine zl rfl (fun g2=>?_) (fun g2=>?_)
   ·refine WA ?_
    exact arg1 [some 0,some 1,some 2,some 3,some 4,some 5,some 6,some 7,some 8] [.box [.mp 1,.mp 2,.mp 3,.mp 4,.mp 5,.o 6 0 R1.length c1,.o 7 0 R2.length c2],mSP (jlF 0 js bl) js.length,mSS rl rk,mSS sp spk,mSI lf lfk,mSI us usk,.arr 3 1 c1 (nR R1),.arr 31 1 c2 (nR R2),.pool (plF jbP js bl)] (q:=⟨congrArg (fun z=>AV.c (I z)) (by have g3:n=(j.ly.length:Int)+1:=Decidable.not_not.1 g1;simp[rfE,runJ,hrun,hk,g3];omega),rfl⟩)
   refine WA ?_
   exact arg1 [some 0,some 1,some 2,some 3,some 4,some 5,some 6,some 7,some 8] [.box [.mp 1,.mp 2,.mp 3,.mp 4,.mp 5,.o 6 0 R1.length c1,.o 7 0 R2.length c2],mSP (jlF 0 js bl) js.length,mSS rl rk,mSS sp spk,mSI lf lfk,mSI us usk,.arr 3 1 c1 (nR R1),.arr 31 1 c2 (nR R2),.pool (plF jbP js bl)] (q:=⟨congrArg (fun z=>AV.c (I z)) (by have g3:n=(j.ly.length:Int)+1:=Decidable.not_not.1 g1;simp[rfE,runJ,hrun,hk,g3];omega),rfl⟩)
  by_cases h3:kn=3
  ·subst h3
   refine WA ?_
   refine za rfl ?_
   refine WA ?_
   refine za rfl ?_
   refine WA ?_
   refine zb rfl ?_
   refine WA ?_
   refine za rfl ?_
   refine ZZ ?_
   refine zd [(0,none),(1,none),(2,none),(3,none),(4,none),(5,none),(6,none),(7,none),(8,none),(9,none)] zn (by kernel_rfl) ?_
   refine WQ ?_
   refine zl rfl (fun g1=>?_) (fun g1=>?_)
   ·refine WA ?_
    exact arg1 [some 0,some 1,some 2,some 3,some 4,some 5,some 6,some 7,some 8] [.box [.mp 1,.mp 2,.mp 3,.mp 4,.mp 5,.o 6 0 R1.length c1,.o 7 0 R2.length c2],mSP (jlF 0 js bl) js.length,mSS rl rk,mSS sp spk,mSI lf lfk,mSI us usk,.arr 3 1 c1 (nR R1),.arr 31 1 c2 (nR R2),.pool (plF jbP js bl)] (q:=⟨congrArg (fun z=>AV.c (I z)) (by simp[rfE,runJ,hrun,hk,g1]),rfl⟩)
   refine WA ?_
   exact arg1 [some 0,some 1,some 2,some 3,some 4,some 5,some 6,some 7,some 8] [.box [.mp 1,.mp 2,.mp 3,.mp 4,.mp 5,.o 6 0 R1.length c1,.o 7 0 R2.length c2],mSP (jlF 0 js bl) js.length,mSS rl rk,mSS sp spk,mSI lf lfk,mSI us usk,.arr 3 1 c1 (nR R1),.arr 31 1 c2 (nR R2),.pool (plF jbP js bl)] (q:=⟨congrArg (fun z=>AV.c (I z)) (by simp[rfE,runJ,hrun,hk];omega),rfl⟩)
  by_cases h4:kn=4
  ·subst h4
   refine WA ?_
   refine za rfl ?_
   refine WA ?_
   refine za rfl ?_
   refine WA ?_
   refine za rfl ?_
   refine WA ?_
   refine zb rfl ?_
   refine WA ?_
   refine za rfl ?_
   refine WA ?_
   exact arg1 [some 0,some 1,some 2,some 3,some 4,some 5,some 6,some 7,some 8] [.box [.mp 1,.mp 2,.mp 3,.mp 4,.mp 5,.o 6 0 R1.length c1,.o 7 0 R2.length c2],mSP (jlF 0 js bl) js.length,mSS rl rk,mSS sp spk,mSI lf lfk,mSI us usk,.arr 3 1 c1 (nR R1),.arr 31 1 c2 (nR R2),.pool (plF jbP js bl)] (q:=⟨congrArg (fun z=>AV.c (I z)) (by simp[rfE,runJ,hrun,hk]),rfl⟩)
  by_cases h5:kn=5
  ·subst h5
   refine WA ?_
   refine za rfl ?_
   refine WA ?_
   refine za rfl ?_
   refine WA ?_
   refine za rfl ?_
   refine WA ?_
   refine za rfl ?_
   refine WA ?_
   refine zb rfl ?_
   refine ZZ ?_
   obtain⟨q,hiu⟩:∃q,inUse sp sn=q:=⟨_,rfl⟩
   refine WR ?_
   refine ze rfl (zQ [0,1,2,3,4,5,6,7,8] (fun _=>[.box [.mp 1,.mp 2,.mp 3,.mp 4,.mp 5,.o 6 0 R1.length c1,.o 7 0 R2.length c2],mSP (jlF 0 js bl) js.length,mSS rl rk,mSS sp spk,mSI lf lfk,mSI us usk,.arr 3 1 c1 (nR R1),.arr 31 1 c2 (nR R2),.pool (plF jbP js bl)]) false (fun _=>zx12 js bl rl rk sp spk lf lfk us usk c1 c2 R1 R2 sn hsp) rfl .fn rfl (by decide) (by kernel_rfl) rfl ZCH (by decide) ZCH (by simp)) ?_
   rintro F1 H1 ⟨_,_,_,_,⟨rfl,rfl⟩,hF,hH⟩
   rw[zF] at hF;rw[hiu] at hF;(refine NSU hF hH ?_;clear hF hH;rintro rfl rfl)
   refine WE ?_
   cases q with
   | true=>
    refine zb rfl ?_
    refine WA ?_
    exact arg1 [some 0,some 1,some 2,some 3,some 4,some 5,some 6,some 7,some 8] [.box [.mp 1,.mp 2,.mp 3,.mp 4,.mp 5,.o 6 0 R1.length c1,.o 7 0 R2.length c2],mSP (jlF 0 js bl) js.length,mSS rl rk,mSS sp spk,mSI lf lfk,mSI us usk,.arr 3 1 c1 (nR R1),.arr 31 1 c2 (nR R2),.pool (plF jbP js bl)] (q:=⟨congrArg (fun z=>AV.c (I z)) (by simp[rfE,hiu]),rfl⟩)
   | false=>
    refine za rfl ?_
    refine WA ?_
    exact arg1 [some 0,some 1,some 2,some 3,some 4,some 5,some 6,some 7,some 8] [.box [.mp 1,.mp 2,.mp 3,.mp 4,.mp 5,.o 6 0 R1.length c1,.o 7 0 R2.length c2],mSP (jlF 0 js bl) js.length,mSS rl rk,mSS sp spk,mSI lf lfk,mSI us usk,.arr 3 1 c1 (nR R1),.arr 31 1 c2 (nR R2),.pool (plF jbP js bl)] (q:=⟨congrArg (fun z=>AV.c (I z)) (by simp[rfE,hiu]),rfl⟩)
  by_cases h6:kn=6
  ·subst h6
   refine WA ?_
   refine za rfl ?_
   refine WA ?_
   refine za rfl ?_
   refine WA ?_
   refine za rfl ?_
   refine WA ?_
   refine za rfl ?_
   refine WA ?_
   refine za rfl ?_
   refine WA ?_
   refine zb rfl ?_
   refine ZZ ?_
   rcases hsg:mget sp pr with _|kk
   ·have hs1:(mget sp pr).getD [] = []:=by rw[hsg];rfl
    have hs2:(mget sp pr).isSome=false:=by rw[hsg];rfl
    refine ZZ ?_
    refine zd [(0,none),(1,none),(2,none),(3,none),(4,none),(5,none),(6,none),(7,none),(8,none),(9,none),(10,none),(11,none)] zn (by kernel_rfl) ?_
    iterate 6 refine WX2 ?_
    refine ZT rfl (zr3 (k:=pr) (l:=sp) hs1 hs2 rfl rfl rfl rfl) ?_
    refine WQ ?_
    refine WA ?_
    refine zb rfl ?_
    refine WA ?_
    exact arg1 [some 0,some 1,some 2,some 3,some 4,some 5,some 6,some 7,some 8] [.box [.mp 1,.mp 2,.mp 3,.mp 4,.mp 5,.o 6 0 R1.length c1,.o 7 0 R2.length c2],mSP (jlF 0 js bl) js.length,mSS rl rk,mSS sp spk,mSI lf lfk,mSI us usk,.arr 3 1 c1 (nR R1),.arr 31 1 c2 (nR R2),.pool (plF jbP js bl)] (q:=⟨congrArg (fun z=>AV.c (I z)) (by simp[rfE,hsg]),rfl⟩)
   ·have hs1:(mget sp pr).getD []=kk:=by rw[hsg];rfl
    have hs2:(mget sp pr).isSome=true:=by rw[hsg];rfl
    obtain⟨lv,hlf⟩:∃q,(mget lf kk).getD 0=q:=⟨_,rfl⟩
    refine ZZ ?_
    refine zd [(0,none),(1,none),(2,none),(3,none),(4,none),(5,none),(6,none),(7,none),(8,none),(9,none),(10,none),(11,none)] zn (by kernel_rfl) ?_
    iterate 6 refine WX2 ?_
    refine ZT rfl (zr3 (k:=pr) (l:=sp) hs1 hs2 rfl rfl rfl rfl) ?_
    refine WQ ?_
    refine WA ?_
    refine za rfl ?_
    refine ZZ ?_
    refine zd [(0,none),(1,none),(2,none),(3,none),(4,none),(5,none),(6,none),(7,none),(8,none),(9,none)] zn (by kernel_rfl) ?_
    iterate 5 refine WX2 ?_
    refine ZT rfl (zm2 (k:=kk) (l:=lf) hlf rfl rfl rfl rfl) ?_
    refine WQ ?_
    refine zl rfl (fun g1=>?_) (fun g1=>?_)
    ·refine WA ?_
     exact arg1 [some 0,some 1,some 2,some 3,some 4,some 5,some 6,some 7,some 8] [.box [.mp 1,.mp 2,.mp 3,.mp 4,.mp 5,.o 6 0 R1.length c1,.o 7 0 R2.length c2],mSP (jlF 0 js bl) js.length,mSS rl rk,mSS sp spk,mSI lf lfk,mSI us usk,.arr 3 1 c1 (nR R1),.arr 31 1 c2 (nR R2),.pool (plF jbP js bl)] (q:=⟨congrArg (fun z=>AV.c (I z)) (by simp[rfE,hsg,hlf,g1]),rfl⟩)
    refine WA ?_
    exact arg1 [some 0,some 1,some 2,some 3,some 4,some 5,some 6,some 7,some 8] [.box [.mp 1,.mp 2,.mp 3,.mp 4,.mp 5,.o 6 0 R1.length c1,.o 7 0 R2.length c2],mSP (jlF 0 js bl) js.length,mSS rl rk,mSS sp spk,mSI lf lfk,mSI us usk,.arr 3 1 c1 (nR R1),.arr 31 1 c2 (nR R2),.pool (plF jbP js bl)] (q:=⟨congrArg (fun z=>AV.c (I z)) (by simp[rfE,hsg,hlf,g1]),rfl⟩)
  refine WA ?_
  refine za rfl ?_
  refine WA ?_
  refine za rfl ?_
  refine WA ?_
  refine za rfl ?_
  refine WA ?_
  refine za rfl ?_
  refine WA ?_
  refine za rfl ?_
  refine WA ?_
  refine za rfl ?_
  refine WA ?_
  exact arg1 [some 0,some 1,some 2,some 3,some 4,some 5,some 6,some 7,some 8] [.box [.mp 1,.mp 2,.mp 3,.mp 4,.mp 5,.o 6 0 R1.length c1,.o 7 0 R2.length c2],mSP (jlF 0 js bl) js.length,mSS rl rk,mSS sp spk,mSI lf lfk,mSI us usk,.arr 3 1 c1 (nR R1),.arr 31 1 c2 (nR R2),.pool (plF jbP js bl)] (q:=⟨congrArg (fun z=>AV.c (I z)) (by simp[rfE,h1,h2,h3,h4,h5,h6]),rfl⟩)
end Go.Proofs.YtophoepbedlhjaaGreatDoor
