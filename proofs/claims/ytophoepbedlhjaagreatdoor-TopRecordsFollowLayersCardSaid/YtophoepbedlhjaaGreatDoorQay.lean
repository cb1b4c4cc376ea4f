/- Maps in the logic: an entry is made ready, and gets its value later (several assignments at once). -/
import Derived.Test.YtophoepbedlhjaaGreatDoorQaw
import Derived.Test.YtophoepbedlhjaaGreatDoorQax
import Derived.Test.YtophoepbedlhjaaGreatDoorQav
set_option linter.unusedSimpArgs false
set_option linter.unusedVariables false
namespace Go.Proofs.YtophoepbedlhjaaGreatDoor
section
open Go Go.RowKit
set_option maxRecDepth 100000
abbrev ptrV (b:Nat):Value:=.pointer (some ⟨b,0,none⟩)
abbrev pV (b:Nat):AV:=.c (.s (ptrV b))
section
variable {P:Program} {N:Nat} {E:Env} {F:Fm} {H:List OB} {o:Oper} {t yt:TypeId} {x y:Operand} {K:Fm→List OB→Prop} {Q:Exit→Fm→List OB→Prop}
theorem zI3 {i b:Nat} (hx:F.lookup i=some (.p b 0 0)) (h:∀B:Nat,K ((i,pV B) :: F) (H++[.eqv (.p b 0 0) (ptrV B)])):Wk N E F H K:=fun S ρ a w hR=>by
 obtain⟨h1,h2⟩:=hR.fr i _ hx
 have h4:=hR.eqv h2
 cases h2 with
 | p h0 h3=>
  obtain⟨B,hB⟩:=Option.isSome_iff_exists.1 h3
  have hd:(AV.p b 0 0).den ρ H=ptrV B:=by simp[AV.den,hB]
  rw[hd] at h4 h1
  refine⟨S,_,_,_,h B,h4.df,h4.sz,fun j y hj=>?_,h4.hp,h4.st,h4.nw,h4.nS,h4.pw,h4.ln,h4.pn⟩
  rw[List.lookup_cons] at hj
  split at hj
  ·rename_i he2
   obtain rfl:j=i:=by simpa using he2
   injection hj with hj
   subst hj
   exact⟨h1,.c (.s _)⟩
  ·exact h4.fr j y hj
theorem aw_ghostp {i b:Nat} {c:Code} (hx:F.lookup i=some (.p b 0 0)) (h:∀B:Nat,AW P N E c ((i,pV B) :: F) (H++[.eqv (.p b 0 0) (ptrV B)]) Q):AW P N E c F H Q:=
 zB5 (zI3 (K:=fun F' H'=>∃B,F'=(i,pV B) :: F∧H'=H++[.eqv (.p b 0 0) (ptrV B)]) hx fun B=>⟨B,rfl,rfl⟩) fun F' H' ⟨B,h1,h2⟩=>by subst h1;subst h2;exact h B
theorem al_ghostp {ops:Array Oper} {i b:Nat} {l:List Oper} (hx:F.lookup i=some (.p b 0 0)) (h:∀B:Nat,AL P N E ops l ((i,pV B) :: F) (H++[.eqv (.p b 0 0) (ptrV B)]) Q):AL P N E ops l F H Q:=
 al_wk (zI3 (K:=fun F' H'=>∃B,F'=(i,pV B) :: F∧H'=H++[.eqv (.p b 0 0) (ptrV B)]) hx fun B=>⟨B,rfl,rfl⟩) fun F' H' ⟨B,h1,h2⟩=>by subst h1;subst h2;exact h B
theorem zH11 {ops:Array Oper} {i b:Nat} {L:List (Nat × Option (List Nat))} (hx:F.lookup i=some (.p b 0 0)) (h:∀B:Nat,AT P N E ops L ((i,pV B) :: F) (H++[.eqv (.p b 0 0) (ptrV B)]) Q):AT P N E ops L F H Q:=
 at_wk (zI3 (K:=fun F' H'=>∃B,F'=(i,pV B) :: F∧H'=H++[.eqv (.p b 0 0) (ptrV B)]) hx fun B=>⟨B,rfl,rfl⟩) fun F' H' ⟨B,h1,h2⟩=>by subst h1;subst h2;exact h B
theorem zJ11 {ops:Array Oper} {i b n0:Nat} {ps:List Plan} (hx:F.lookup i=some (.p b 0 0)) (h:∀B:Nat,AM P N E ops n0 ps ((i,pV B) :: F) (H++[.eqv (.p b 0 0) (ptrV B)]) Q):AM P N E ops n0 ps F H Q:=
 am_wk (zI3 (K:=fun F' H'=>∃B,F'=(i,pV B) :: F∧H'=H++[.eqv (.p b 0 0) (ptrV B)]) hx fun B=>⟨B,rfl,rfl⟩) fun F' H' ⟨B,h1,h2⟩=>by subst h1;subst h2;exact h B
end
def encPt:Enc Value:=⟨fun v=>v,fun v=>.c (.s v),fun v ρ H=>rfl,fun v w S ρ H=>.c (.s _)⟩
abbrev mSP (l:List (Nat × List UInt8 × Value)) (ck:Nat):OB:=mpO encSt encPt l ck
def jlF:Nat→List Jb→List Nat→List (Nat × List UInt8 × Value)
 | i,j :: js,b :: bl=>(i,j.nm,ptrV b) :: jlF (i+1) js bl
 | _,_,_=>[]
def plF {α:Type} (c:α→List CV):List α→List Nat→List PE
 | j :: js,b :: bl=>.bx (ptrV b) (c j) :: plF c js bl
 | _,_=>[]
theorem zd9:∀{i:Nat} {js:List Jb} {bl:List Nat} {j:Jb} {b:Nat},bl.length=js.length→jlF i (js++[j]) (bl++[b])=jlF i js bl++[(i+js.length,j.nm,ptrV b)]
 | i,[],[],j,b,_=>rfl
 | i,x :: js,c :: bl,j,b,h=>by
  simp only[List.cons_append,jlF]
  rw[zd9 (by simpa using h)]
  simp only[List.length_cons]
  rw[show i+1+js.length=i+(js.length+1) by omega]
 | i,[],_ :: _,_,_,h=>by simp at h
 | i,_ :: _,[],_,_,h=>by simp at h
theorem zV8 {α:Type} {c:α→List CV}:∀{js:List α} {bl:List Nat} {j:α} {b:Nat},bl.length=js.length→plF c (js++[j]) (bl++[b])=plF c js bl++[.bx (ptrV b) (c j)]
 | [],[],j,b,_=>rfl
 | x :: js,d :: bl,j,b,h=>by
  simp only[List.cons_append,plF]
  rw[zV8 (by simpa using h)]
 | [],_ :: _,_,_,h=>by simp at h
 | _ :: _,[],_,_,h=>by simp at h
theorem zc8:∀{js:List Jb} {bl:List Nat} {i k0:Nat} {s:List UInt8},bl.length=js.length→(fndI (fun j=>decide (s=j.nm)) js k0=none→mget (jlF i js bl) s=none)∧∀k,fndI (fun j=>decide (s=j.nm)) js k0=some k→k0≤k∧∃b,bl[k - k0]?=some b∧mget (jlF i js bl) s=some (ptrV b)
 | [],[],i,k0,s,_=>⟨fun _=>rfl,fun k h=>by cases h⟩
 | j :: js,b :: bl,i,k0,s,h=>by
  simp only[fndI,jlF,mget]
  by_cases hs:s=j.nm
  ·rw[if_pos (by simpa using hs),if_pos hs]
   exact⟨fun h=>(by cases h),fun k hk=>by injection hk with hk;subst hk;exact⟨Nat.le_refl _,b,by simp,rfl⟩⟩
  ·rw[if_neg (by simpa using hs),if_neg hs]
   obtain⟨h1,h2⟩:=zc8 (js:=js) (bl:=bl) (i:=i+1) (k0:=k0+1) (s:=s) (by simpa using h)
   refine⟨h1,fun k hk=>?_⟩
   obtain⟨h3,c,h4,h5⟩:=h2 k hk
   exact⟨by omega,c,by rw[show k - k0=(k - (k0+1))+1 by omega,List.getElem?_cons_succ];exact h4,h5⟩
 | [],_ :: _,_,_,_,h=>by simp at h
 | _ :: _,[],_,_,_,h=>by simp at h
theorem zl4 {js:List Jb} {bl:List Nat} {s:List UInt8} (h:bl.length=js.length) (hn:nmI js s=none):mget (jlF 0 js bl) s=none:=(zc8 h).1 hn
theorem zq5 {js:List Jb} {bl:List Nat} {s:List UInt8} {k:Nat} (h:bl.length=js.length) (hn:nmI js s=some k):∃b,bl[k]?=some b∧mget (jlF 0 js bl) s=some (ptrV b):=by
 obtain⟨_,b,h1,h2⟩:=(zc8 (i:=0) h).2 k hn
 exact⟨b,by simpa using h1,h2⟩
theorem zj5 {α:Type} {c:α→List CV}:∀{js:List α} {bl:List Nat} {k:Nat} {j:α} {b:Nat},js[k]?=some j→bl[k]?=some b→(plF c js bl)[k]?=some (.bx (ptrV b) (c j))
 | [],_,_,_,_,h,_=>by simp at h
 | _ :: _,[],_,_,_,_,h=>by simp at h
 | x :: js,d :: bl,0,j,b,h1,h2=>by
  simp only[List.getElem?_cons_zero,Option.some.injEq] at h1 h2
  subst h1;subst h2;rfl
 | x :: js,d :: bl,k+1,j,b,h1,h2=>by
  simp only[List.getElem?_cons_succ] at h1 h2
  simp only[plF,List.getElem?_cons_succ]
  exact zj5 h1 h2
theorem zQ10 {α:Type} {c:α→List CV} {f:α→α}:∀{js:List α} {bl:List Nat} {k:Nat} {j:α} {b:Nat},js[k]?=some j→bl[k]?=some b→(plF c js bl).set k (.bx (ptrV b) (c (f j)))=plF c (js.modify k f) bl
 | [],_,_,_,_,h,_=>by simp at h
 | _ :: _,[],_,_,_,_,h=>by simp at h
 | x :: js,d :: bl,0,j,b,h1,h2=>by
  simp only[List.getElem?_cons_zero,Option.some.injEq] at h1 h2
  subst h1;subst h2;rfl
 | x :: js,d :: bl,k+1,j,b,h1,h2=>by
  simp only[List.getElem?_cons_succ] at h1 h2
  simp only[plF,List.set_cons_succ,List.modify_succ_cons]
  rw[zQ10 h1 h2]
theorem zp3 {f:Jb→Jb} (hf:∀j,(f j).nm=j.nm):∀{js:List Jb} {bl:List Nat} {i k:Nat},jlF i (js.modify k f) bl=jlF i js bl
 | [],_,_,k=>by simp
 | _ :: _,[],_,k=>by cases k <;> rfl
 | x :: js,d :: bl,i,0=>by simp[jlF,hf]
 | x :: js,d :: bl,i,k+1=>by simp only[List.modify_succ_cons,jlF];rw[zp3 hf]
def stW (s:Int):List UInt8:=if s=0 then [114,117,110,115] else if s=1 then [100,111,110,101] else [102,97,105,108,101,100]
section
variable {N:Nat} {E:Env} {F:Fm} {H:List OB} {o:Oper} {b ck:Nat} {k:List UInt8}
theorem zf3 {x ix:Operand} {l:List (Nat × List UInt8 × Value)} {q:Value} (hq:(mget l k).getD (.pointer none)=q) (ho:o.op = .lookup 111 x ix false) (hx:ev F x=some (.mp b)) (hH:H[b]?=some (mSP l ck)) (hi:ev F ix=some (.c (T k))):Rd Tryz.prog N E o F H (.c (.s q)):=by
 have:=ze3 (N:=N) (E:=E) (ke:=encSt) (ve:=encPt) (k:=k) (z:=.pointer none) keySt ho Tryz.underlying111 (by kernel_rfl) hx hH hi (fun ρ H=>encSt.den k ρ H)
 rwa [hq] at this
theorem ef_muJ {x ix y:Operand} {l:List (Nat × List UInt8 × Value)} {z:Value} (ho:o.op = .mapUpdate 111 x ix y) (hd:o.dst=none) (hx:ev F x=some (.mp b)) (hH:H[b]?=some (mSP l ck)) (hi:ev F ix=some (.c (T k))) (hy:ev F y=some (.c (.s z))) :
    Ef Tryz.prog N E o F H fun F' H'=>F'=F∧H'=H.set b (mSP (mset ck k z l) (mclk ck k l)):=
 zj3 (ke:=encSt) (ve:=encPt) (k:=k) (z:=z) keySt ho hd Tryz.underlying111 hx hH hi (fun ρ H=>encSt.den k ρ H) hy (fun ρ H=>encPt.den z ρ H)
end
end
section
open Go Go.RowKit
section
variable {P:Program} {N:Nat} {E:Env} {F:Fm} {H:List OB} {o:Oper}
end
end
end Go.Proofs.YtophoepbedlhjaaGreatDoor
