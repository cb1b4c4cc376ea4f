/- Lists of notes, by value: keys of maps; CheckNotes. -/
import Derived.Test.YtophoepbedlhjaaGreatDoorQau
import Derived.Test.YtophoepbedlhjaaGreatDoorQas
import Derived.Maps.RangeRun
import Derived.Laws.StructEq
set_option linter.unusedSimpArgs false
set_option linter.unusedVariables false
-- NEWM
namespace Go.Proofs.YtophoepbedlhjaaGreatDoor
open Go Go.RowKit
set_option maxRecDepth 100000
def cmpNt (a b:Nt):Int:=fstN [cmpI a.at_ b.at_,cmpB a.st b.st,cmpI a.no b.no]
theorem zP5 (a b:Nt):ACalls Tryz.prog 96 [noA a,noA b] [] fun u H=>u = .c (I (cmpNt a b))∧H = []:=by
 obtain⟨a0,a1,a2,a3,a4,a5,a6,a7,a8,a9⟩:=a
 obtain⟨c0,c1,c2,c3,c4,c5,c6,c7,c8,c9⟩:=b
 show ACalls _ _ [.a [.c (T a0),.c (I a1),.c (I a2),.c (I a3),.c (T a4),.c (T a5),.c (T a6),.c (I a7),.c (T a8),.c (I a9)],.a [.c (T c0),.c (I c1),.c (I c2),.c (I c3),.c (T c4),.c (T c5),.c (T c6),.c (I c7),.c (T c8),.c (I c9)]] [] _
 refine zb (N:=22) Tryz.func96 rfl rfl (by simp) fun E hE=>?_
 refine WA ?_
 refine ZZ ?_
 refine zc [(0,none),(1,none),(2,none),(3,none),(5,none),(6,none),(7,none),(8,none),(10,none),(11,none),(12,none),(13,none),(4,some [5,6,7,8,10,11,12,13]),(9,some [10,11,12,13]),(14,some []),(15,some []),(16,some []),(17,none)] zo (by kernel_rfl) ?_
 refine WP ?_
 refine zY rfl rfl (zn false (fun _=>zx7 _ _) rfl .fn rfl (by decide) (by kernel_rfl) rfl (fun _g=>.cons (.c rfl) (.cons (.c rfl) .nil)) (by simp)) ?_
 rintro _ _ ⟨_,_,_,⟨rfl,rfl⟩,hF,hH⟩
 (refine NST hF hH ?_;clear hF hH;rintro rfl rfl)
 refine⟨zj (by first|exact zF rfl rfl rfl (ZX (KF (t:=37) (f:=0) rfl rfl)) rfl) (zj (by first|exact zF rfl rfl rfl (ZL (KK (t:=9) rfl)) rfl) (zj (by first|exact zF rfl rfl rfl (ZX (KF (t:=37) (f:=0) rfl rfl)) rfl) (zj (by first|exact zF rfl rfl rfl (ZL (KK (t:=9) rfl)) rfl) (zj (by first|exact zF rfl rfl rfl (ZX (KF (t:=37) (f:=1) rfl rfl)) rfl) (zj (by first|exact zF rfl rfl rfl (ZL (KK (t:=3) rfl)) rfl) (zj (by first|exact zF rfl rfl rfl (ZX (KF (t:=37) (f:=1) rfl rfl)) rfl) (zj (by first|exact zF rfl rfl rfl (ZL (KK (t:=3) rfl)) rfl) (zk)))))))), ?_⟩
 refine zY rfl rfl (efk (c:=fun _=>scmp_v _ _)) ?_
 rintro _ _ ⟨_,_,_,⟨rfl,rfl⟩,hF,hH⟩
 (refine NST hF hH ?_;clear hF hH;rintro rfl rfl)
 refine⟨zj (by first|exact zF rfl rfl rfl (ZX (KF (t:=37) (f:=1) rfl rfl)) rfl) (zj (by first|exact zF rfl rfl rfl (ZL (KK (t:=3) rfl)) rfl) (zj (by first|exact zF rfl rfl rfl (ZX (KF (t:=37) (f:=1) rfl rfl)) rfl) (zj (by first|exact zF rfl rfl rfl (ZL (KK (t:=3) rfl)) rfl) (zk)))), ?_⟩
 refine zY rfl rfl (zn false (fun _=>zx7 _ _) rfl .fn rfl (by decide) (by kernel_rfl) rfl (fun _g=>.cons (.c rfl) (.cons (.c rfl) .nil)) (by simp)) ?_
 rintro _ _ ⟨_,_,_,⟨rfl,rfl⟩,hF,hH⟩
 (refine NST hF hH ?_;clear hF hH;rintro rfl rfl)
 refine⟨zk, ?_⟩
 refine WP ?_
 refine zY rfl rfl (zn true (fun g=>orJ_v [cmpI a2 c2,cmpB a0 c0,cmpI a1 c1] (g (.o 2 0 3 3)) (by simp)) rfl .fn rfl (by decide) (by kernel_rfl) rfl (fun _=>.cons (.frz rfl rfl rfl rfl rfl) .nil) (fun _ _ _ _ ⟨hu,hH⟩=>by rw[hu,hH];exact⟨.c (.inl trivial),by simp⟩)) ?_
 rintro _ _ ⟨_,_,_,⟨rfl,rfl⟩,hF,hH⟩
 (refine NST hF hH ?_;clear hF hH;rintro rfl rfl)
 refine⟨zk, ?_⟩
 refine WQ ?_
 all_goals exact arz (q:=⟨rfl,rfl⟩)
theorem zD6 (a b:Nt):cmpNt a b < 0↔a.at_ < b.at_∨(a.at_=b.at_∧(cmpB a.st b.st < 0∨(a.st=b.st∧a.no < b.no))):=by
 have h1:=@zy11 a.at_ b.at_
 have h2:=@cmpN_0 a.at_ b.at_
 have h3:=@zy11 a.no b.no
 have h4:=@zz11 a.st b.st
 unfold cmpNt
 simp only[fstN]
 split
 ·rename_i e
  split
  ·rename_i e2
   rw[←h4]
   split <;> omega
  ·rename_i e2
   rw[←h4];omega
 ·rename_i e;omega
theorem zl8 {a b c:Nt} (h1:cmpNt a b < 0) (h2:cmpNt b c < 0):cmpNt a c < 0:=by
 rw[zD6] at *
 rcases h1 with h1|⟨e1,h1⟩ <;> rcases h2 with h2|⟨e2,h2⟩
 ·left;omega
 ·left;omega
 ·left;omega
 ·right
  refine⟨by omega, ?_⟩
  rcases h1 with h1|⟨f1,h1⟩ <;> rcases h2 with h2|⟨f2,h2⟩
  ·exact .inl (zQ5 h1 h2)
  ·exact .inl (f2▸h1)
  ·exact .inl (f1▸h2)
  ·exact .inr ⟨f1.trans f2,by omega⟩
end Go.Proofs.YtophoepbedlhjaaGreatDoor
namespace Go.Proofs.YtophoepbedlhjaaGreatDoor
open Go Go.RowKit
structure Enc (α:Type) where
 v:α→Value
 x:α→AV
 den:∀a ρ H,(x a).den ρ H=v a
 wf:∀a w S ρ H,WF w S ρ H (x a)
section
variable {P:Program} {w:World}
theorem zJ {t:TypeId} {d:TypeDesc} (h:P.underlying t=some d):(underlying t).run P w = .ok d w:=by unfold underlying;simp[h]
theorem zQ3 {b ck:Nat} {ms:Array MapEntry} (h:w.heap[b]?=some (.map ms ck)):(getObj b).run P w = .ok (.map ms ck) w:=by
 unfold getObj
 simp[Sem.run,h]
theorem zZ8 {B ck:Nat} {ob:Obj} {ms:Array MapEntry} (h:w.heap[B]?=some (.map ms ck)):(setObj B ob).run P w = .ok () (zp w B ob):=by
 unfold setObj
 simp[Sem.run,h,zp]
def kpos {α:Type} [DecidableEq α] (a:α):List α→Nat→Option Nat
 | [],_=>none
 | b :: l,i=>if a=b then some i else kpos a l (i+1)
structure KeyOk (P:Program) (kt:TypeId) {α:Type} [DecidableEq α] (e:Enc α):Prop where
 chk:∀b a w,(Instr.checkKey b 10000 kt (e.v a)).run P w = .ok () w
 bits:∀a,Instr.sameBits 10000 (e.v a) (e.v a)=true
 find:∀(ms:List MapEntry) (l:List α) a w,ms.map (·.key)=l.map e.v→∃r,(Instr.findKey kt (e.v a) ms).run P w = .ok r w∧(kpos a l 0=none→r=none)∧∀i,kpos a l 0=some i→∃m,ms[i]?=some m∧r=some (i,m.val)
theorem zM5 {α:Type} [DecidableEq α] {e:Enc α} {d:TypeDesc} (hn:∀a b,Instr.sameNow d (e.v a) (e.v b)=some (decide (a=b))) (a:α):∀(ms:List MapEntry) (l:List α) (i:Nat),ms.map (·.key)=l.map e.v→∃r,Instr.findNow d (e.v a) ms i=some r∧(kpos a l i=none→r=none)∧∀j,kpos a l i=some j→∃m,i≤j∧ms[j - i]?=some m∧r=some (j,m.val)
 | [],[],i,_=>⟨none,rfl,fun _=>rfl,fun j h=>(by cases h)⟩
 | [],_ :: _,_,h=>(by simp at h)
 | _ :: _,[],_,h=>(by simp at h)
 | m :: ms,b :: l,i,h=>by
  simp only[List.map_cons,List.cons.injEq] at h
  unfold Instr.findNow kpos
  rw[h.1,hn]
  by_cases hab:a=b
  ·rw[decide_eq_true hab,if_pos hab]
   exact⟨_,rfl,fun h=>(by cases h),fun j hj=>(by injection hj with hj;subst hj;exact⟨m,Nat.le_refl _,by simp,rfl⟩)⟩
  ·rw[decide_eq_false hab,if_neg hab]
   obtain⟨r,h1,h2,h3⟩:=zM5 hn a ms l (i+1) h.2
   refine⟨r,h1,h2,fun j hj=>?_⟩
   obtain⟨m',g1,g2,g3⟩:=h3 j hj
   exact⟨m',by omega,by rw[show j - i=(j - (i+1))+1 by omega,List.getElem?_cons_succ];exact g2,g3⟩
theorem zN5 {α:Type} [DecidableEq α] {e:Enc α} {kt:TypeId} (he:∀a b w,(Op.equal kt (e.v a) (e.v b)).run P w = .ok (decide (a=b)) w) (a:α):∀(ms:List MapEntry) (l:List α) (i:Nat),ms.map (·.key)=l.map e.v→∃r,(Instr.findAsking kt (e.v a) ms i).run P w = .ok r w∧(kpos a l i=none→r=none)∧∀j,kpos a l i=some j→∃m,i≤j∧ms[j - i]?=some m∧r=some (j,m.val)
 | [],[],i,_=>⟨none,rfl,fun _=>rfl,fun j h=>(by cases h)⟩
 | [],_ :: _,_,h=>(by simp at h)
 | _ :: _,[],_,h=>(by simp at h)
 | m :: ms,b :: l,i,h=>by
  simp only[List.map_cons,List.cons.injEq] at h
  unfold Instr.findAsking kpos
  simp only[Sem.run_bind]
  rw[h.1,he]
  simp only[Result.andThen_ok]
  by_cases hab:a=b
  ·rw[decide_eq_true hab,if_pos hab,if_pos rfl]
   exact⟨_,rfl,fun h=>(by cases h),fun j hj=>(by injection hj with hj;subst hj;exact⟨m,Nat.le_refl _,by simp,rfl⟩)⟩
  ·rw[decide_eq_false hab,if_neg hab,if_neg (by simp)]
   obtain⟨r,h1,h2,h3⟩:=zN5 he a ms l (i+1) h.2
   refine⟨r,h1,h2,fun j hj=>?_⟩
   obtain⟨m',g1,g2,g3⟩:=h3 j hj
   exact⟨m',by omega,by rw[show j - i=(j - (i+1))+1 by omega,List.getElem?_cons_succ];exact g2,g3⟩
theorem KeyOk.now {kt:TypeId} {α:Type} [DecidableEq α] {e:Enc α} {d:TypeDesc} (hu:P.underlying kt=some d) (hn:∀a b,Instr.sameNow d (e.v a) (e.v b)=some (decide (a=b))) (hc:∀b a w,(Instr.checkKey b 10000 kt (e.v a)).run P w = .ok () w) (hb:∀a,Instr.sameBits 10000 (e.v a) (e.v a)=true):KeyOk P kt e:=
 ⟨hc,hb,fun ms l a w h=>by
  obtain⟨r,h1,h2,h3⟩:=zM5 hn a ms l 0 h
  refine⟨r, ?_,h2,fun i hi=>?_⟩
  ·unfold Instr.findKey
   simp only[Sem.run_bind,zJ hu,Result.andThen_ok,h1]
   rfl
  ·obtain⟨m,_,g2,g3⟩:=h3 i hi
   exact⟨m,g2,g3⟩⟩
theorem KeyOk.ask {kt:TypeId} {α:Type} [DecidableEq α] {e:Enc α} {d:TypeDesc} (hu:P.underlying kt=some d) (hn:∀a b,Instr.sameNow d (e.v a) (e.v b)=none) (he:∀a b w,(Op.equal kt (e.v a) (e.v b)).run P w = .ok (decide (a=b)) w) (hc:∀b a w,(Instr.checkKey b 10000 kt (e.v a)).run P w = .ok () w) (hb:∀a,Instr.sameBits 10000 (e.v a) (e.v a)=true):KeyOk P kt e:=
 ⟨hc,hb,fun ms l a w h=>by
  obtain⟨r,h1,h2,h3⟩:=zN5 (w:=w) he a ms l 0 h
  cases ms with
  | nil=>
   cases l with
   | nil=>exact⟨none,by unfold Instr.findKey;simp only[Sem.run_bind,zJ hu,Result.andThen_ok,Instr.findNow];rfl,fun _=>rfl,fun i hi=>(by cases hi)⟩
   | cons b l=>simp at h
  | cons m ms=>
   cases l with
   | nil=>simp at h
   | cons b l=>
    refine⟨r, ?_,h2,fun i hi=>?_⟩
    ·unfold Instr.findKey
     simp only[Sem.run_bind,zJ hu,Result.andThen_ok,Instr.findNow]
     have hk:m.key=e.v b:=by simpa using (List.cons.inj h).1
     rw[hk,hn]
     exact h1
    ·obtain⟨m,_,g2,g3⟩:=h3 i hi
     exact⟨m,g2,g3⟩⟩
end
abbrev mpO {α β:Type} (ke:Enc α) (ve:Enc β) (l:List (Nat × α × β)) (ck:Nat):OB:=.map (l.map fun e=>(e.1,ke.v e.2.1,.s (ve.v e.2.2))) ck
def mget {α β:Type} [DecidableEq α]:List (Nat × α × β)→α→Option β
 | [],_=>none
 | e :: l,a=>if a=e.2.1 then some e.2.2 else mget l a
def mset {α β:Type} [DecidableEq α] (ck:Nat) (a:α) (b:β):List (Nat × α × β)→List (Nat × α × β)
 | []=>[(ck,a,b)]
 | e :: l=>if a=e.2.1 then (e.1,a,b) :: l else e :: mset ck a b l
def mclk {α β:Type} [DecidableEq α] (ck:Nat) (a:α) (l:List (Nat × α × β)):Nat:=if (mget l a).isSome then ck else ck+1
theorem zK1 {α β:Type} [DecidableEq α] {ck:Nat} {a c:α} {b:β}:∀{l:List (Nat × α × β)},mget (mset ck a b l) c=if c=a then some b else mget l c
 | []=>by simp[mset,mget]
 | e :: l=>by
  unfold mset
  by_cases h:a=e.2.1
  ·rw[if_pos h]
   simp only[mget]
   by_cases hc:c=a
   ·rw[if_pos hc,if_pos hc]
   ·rw[if_neg hc,if_neg hc,if_neg (by rw[←h];exact hc)]
  ·rw[if_neg h]
   simp only[mget]
   by_cases hc:c=e.2.1
   ·rw[if_pos hc,if_pos hc,if_neg (by rw[hc];exact fun h'=>h h'.symm)]
   ·rw[if_neg hc,if_neg hc,zK1]
theorem zi3 {α β:Type} [DecidableEq α] {a:α}:∀(l:List (Nat × α × β)) (i:Nat),(kpos a (l.map (·.2.1)) i=none→mget l a=none)∧∀j,kpos a (l.map (·.2.1)) i=some j→i≤j∧∃e,l[j - i]?=some e∧mget l a=some e.2.2∧e.2.1=a
 | [],i=>⟨fun _=>rfl,fun j h=>(by cases h)⟩
 | e :: l,i=>by
  simp only[List.map_cons,kpos,mget]
  by_cases h:a=e.2.1
  ·rw[if_pos h,if_pos h]
   exact⟨fun h=>(by cases h),fun j hj=>(by injection hj with hj;subst hj;exact⟨Nat.le_refl _,e,by simp,rfl,h.symm⟩)⟩
  ·rw[if_neg h,if_neg h]
   obtain⟨h1,h2⟩:=zi3 (a:=a) l (i+1)
   refine⟨h1,fun j hj=>?_⟩
   obtain⟨g1,e',g2,g3⟩:=h2 j hj
   exact⟨by omega,e',by rw[show j - i=(j - (i+1))+1 by omega,List.getElem?_cons_succ];exact g2,g3⟩
theorem zJ2 {α β:Type} [DecidableEq α] {ck:Nat} {a:α} {b:β}:∀{l:List (Nat × α × β)},mget l a=none→mset ck a b l=l++[(ck,a,b)]
 | [],_=>rfl
 | e :: l,h=>by
  simp only[mget] at h
  split at h
  ·cases h
  ·rename_i hne
   simp only[mset]
   rw[if_neg hne,zJ2 h];rfl
theorem zg7 {α β:Type} [DecidableEq α] {ck:Nat} {a:α} {b:β}:∀{l:List (Nat × α × β)} {i j:Nat},kpos a (l.map (·.2.1)) i=some j→i≤j∧mset ck a b l=l.modify (j - i) (fun e=>(e.1,a,b))
 | [],_,_,h=>(by cases h)
 | e :: l,i,j,h=>by
  simp only[List.map_cons,kpos] at h
  simp only[mset]
  split at h
  ·rename_i he
   injection h with h
   subst h
   rw[if_pos he]
   exact⟨Nat.le_refl _,by simp⟩
  ·rename_i he
   obtain⟨h1,h2⟩:=zg7 (ck:=ck) (b:=b) h
   rw[if_neg he,h2]
   exact⟨by omega,by rw[show j - i=(j - (i+1))+1 by omega];rfl⟩
section
variable {P:Program} {N:Nat} {E:Env} {F:Fm} {H:List OB} {o:Oper} {S:Nat→Prop} {ρ:List (Option Nat)} {a:Act} {w:World}
theorem zW1 {t:TypeId} {d:Nat} (ho:o.op = .makeMap t none) (hd:o.dst=some d) (hN:d < N):Ef P N E o F H fun F' H'=>F'=(d,.mp H.length) :: F∧H'=H++[.map [] 0]:=
 zT9 hd hN ⟨rfl,rfl⟩ fun S ρ a w hR=>by
  refine⟨S,ρ++[some w.heap.size],w.alloc (.map #[] 0), ?_, ?_,.mp (by simp) (by simp[zr,hR.hp.len])⟩
  ·have:(AV.mp H.length).den (ρ++[some w.heap.size]) (H++[.map [] 0]) = .map (some w.heap.size):=by simp[AV.den,zr,hR.hp.len]
   rw[this]
   simp only[execOp,ho,Instr.makeMap,Option.map_none,Sem.run_bind,Sem.run_pure,Result.andThen_ok,run_newObj,World.alloc_eq]
  ·exact hR.newO (.map #[] 0) (.map [] 0) ⟨_,#[],rfl,zq2 _ _,rfl,fun e h=>(by cases h)⟩
theorem zF4 {α β:Type} {ke:Enc α} {ve:Enc β} {l:List (Nat × α × β)} {ck b:Nat} (hp:RH w S ρ H) (hb:H[b]?=some (mpO ke ve l ck)):∃B ms,atB ρ b=some B∧w.heap[B]?=some (.map ms ck)∧ms.toList=l.map (fun e=>(⟨ke.v e.2.1,ve.v e.2.2,e.1⟩:MapEntry)):=by
 obtain⟨B,ms,h1,h2,h3,h4⟩:=hp.blk b _ hb
 exact⟨B,ms,h1,h2,by rw[h3,List.map_map];rfl⟩
theorem ze3 {α β:Type} [DecidableEq α] {ke:Enc α} {ve:Enc β} {t kt et:TypeId} {x ix:Operand} {b ck:Nat} {l:List (Nat × α × β)} {k:α} {xk:AV} {z:β} (hk:KeyOk P kt ke) (ho:o.op = .lookup t x ix false) (ht:P.underlying t=some (.map kt et)) (hz:(P.info? et).bind (·.zero)=some (ve.v z))
    (hx:ev F x=some (.mp b)) (hH:H[b]?=some (mpO ke ve l ck)) (hi:ev F ix=some xk) (hxk:∀ρ H,xk.den ρ H=ke.v k):Rd P N E o F H (ve.x ((mget l k).getD z)):=fun S ρ a w hR=>by
 obtain⟨h1,_⟩:=hR.ev hx
 have h2:=(hR.ev hi).1
 rw[hxk] at h2
 obtain⟨B,ms,g1,g2,g3⟩:=zF4 hR.hp hH
 simp only[AV.den,g1] at h1
 obtain⟨r,f1,f2,f3⟩:=hk.find ms.toList (l.map (·.2.1)) k w (by rw[g3,List.map_map,List.map_map];rfl)
 obtain⟨q1,q2⟩:=zi3 (a:=k) l 0
 have hzr:(zeroValue et).run P w = .ok (ve.v z) w:=by
  unfold zeroValue typeInfo
  cases hi:P.info? et with
  | none=>rw[hi] at hz;cases hz
  | some i=>rw[hi] at hz;simp only[Option.bind_some] at hz;simp[hi,hz]
 refine⟨?_,ve.wf _ _ _ _ _⟩
 rw[ve.den]
 cases hp:kpos k (l.map (·.2.1)) 0 with
 | none=>
  rw[f2 hp] at f1
  rw[q1 hp]
  simp only[execOp,ho,h1,h2,Instr.lookup,Sem.run_bind,zJ ht,Result.andThen_ok,zQ3 g2,Sem.run_pure,hk.chk,f1,hzr]
  rfl
 | some j=>
  obtain⟨m,f4,f5⟩:=f3 j hp
  obtain⟨_,e,q3,q4,_⟩:=q2 j hp
  rw[f5] at f1
  have hm:m.val=ve.v e.2.2:=by
   rw[g3,List.getElem?_map] at f4
   rw[Nat.sub_zero] at q3
   rw[q3] at f4
   simp only[Option.map_some,Option.some.injEq] at f4
   rw[←f4]
  rw[q4]
  simp only[execOp,ho,h1,h2,Instr.lookup,Sem.run_bind,zJ ht,Result.andThen_ok,zQ3 g2,Sem.run_pure,hk.chk,f1,hm]
  rfl
theorem zD9 {α β:Type} [DecidableEq α] {ke:Enc α} {ve:Enc β} {t kt et:TypeId} {x ix:Operand} {b ck:Nat} {l:List (Nat × α × β)} {k:α} {xk:AV} {z:β} (hk:KeyOk P kt ke) (ho:o.op = .lookup t x ix true) (ht:P.underlying t=some (.map kt et)) (hz:(P.info? et).bind (·.zero)=some (ve.v z))
    (hx:ev F x=some (.mp b)) (hH:H[b]?=some (mpO ke ve l ck)) (hi:ev F ix=some xk) (hxk:∀ρ H,xk.den ρ H=ke.v k):Rd P N E o F H (.t [ve.x ((mget l k).getD z),.c (.s (.bool (mget l k).isSome))]):=fun S ρ a w hR=>by
 obtain⟨h1,_⟩:=hR.ev hx
 have h2:=(hR.ev hi).1
 rw[hxk] at h2
 obtain⟨B,ms,g1,g2,g3⟩:=zF4 hR.hp hH
 simp only[AV.den,g1] at h1
 obtain⟨r,f1,f2,f3⟩:=hk.find ms.toList (l.map (·.2.1)) k w (by rw[g3,List.map_map,List.map_map];rfl)
 obtain⟨q1,q2⟩:=zi3 (a:=k) l 0
 have hzr:(zeroValue et).run P w = .ok (ve.v z) w:=by
  unfold zeroValue typeInfo
  cases hi:P.info? et with
  | none=>rw[hi] at hz;cases hz
  | some i=>rw[hi] at hz;simp only[Option.bind_some] at hz;simp[hi,hz]
 refine⟨?_,.t fun y hy=>?_⟩
 ·simp only[AV.den,AV.denL,ve.den,CV.den]
  cases hp:kpos k (l.map (·.2.1)) 0 with
  | none=>
   rw[f2 hp] at f1
   rw[q1 hp]
   simp only[execOp,ho,h1,h2,Instr.lookup,Sem.run_bind,zJ ht,Result.andThen_ok,zQ3 g2,Sem.run_pure,hk.chk,f1,hzr]
   rfl
  | some j=>
   obtain⟨m,f4,f5⟩:=f3 j hp
   obtain⟨_,e,q3,q4,_⟩:=q2 j hp
   rw[f5] at f1
   have hm:m.val=ve.v e.2.2:=by
    rw[g3,List.getElem?_map] at f4
    rw[Nat.sub_zero] at q3
    rw[q3] at f4
    simp only[Option.map_some,Option.some.injEq] at f4
    rw[←f4]
   rw[q4]
   simp only[execOp,ho,h1,h2,Instr.lookup,Sem.run_bind,zJ ht,Result.andThen_ok,zQ3 g2,Sem.run_pure,hk.chk,f1,hm]
   rfl
 ·simp only[List.mem_cons,List.not_mem_nil,or_false] at hy
  rcases hy with rfl|rfl
  ·exact ve.wf _ _ _ _ _
  ·exact .c (.s _)
theorem zj3 {α β:Type} [DecidableEq α] {ke:Enc α} {ve:Enc β} {t kt et:TypeId} {x ix y:Operand} {b ck:Nat} {l:List (Nat × α × β)} {k:α} {xk yv:AV} {z:β} (hk:KeyOk P kt ke) (ho:o.op = .mapUpdate t x ix y) (hd:o.dst=none) (ht:P.underlying t=some (.map kt et))
    (hx:ev F x=some (.mp b)) (hH:H[b]?=some (mpO ke ve l ck)) (hi:ev F ix=some xk) (hxk:∀ρ H,xk.den ρ H=ke.v k) (hy:ev F y=some yv) (hyv:∀ρ H,yv.den ρ H=ve.v z) :
    Ef P N E o F H fun F' H'=>F'=F∧H'=H.set b (mpO ke ve (mset ck k z l) (mclk ck k l)):=fun S ρ a w hR=>by
 obtain⟨h1,_⟩:=hR.ev hx
 have h2:=(hR.ev hi).1
 have h3:=(hR.ev hy).1
 rw[hxk] at h2
 rw[hyv] at h3
 obtain⟨B,ms,g1,g2,g3⟩:=zF4 hR.hp hH
 simp only[AV.den,g1] at h1
 obtain⟨r,f1,f2,f3⟩:=hk.find ms.toList (l.map (·.2.1)) k w (by rw[g3,List.map_map,List.map_map];rfl)
 obtain⟨q1,q2⟩:=zi3 (a:=k) l 0
 have fin:∀ms':Array MapEntry,ms'.toList=(mset ck k z l).map (fun e=>(⟨ke.v e.2.1,ve.v e.2.2,e.1⟩:MapEntry))→(execOp a.eval o).run P w = .ok .skip (zp w B (.map ms' (mclk ck k l)))→effO P o a w fun a' w'=>∃S' ρ' F' H',(F'=F∧H'=H.set b (mpO ke ve (mset ck k z l) (mclk ck k l)))∧R N E S' ρ' F' H' a' w':=fun ms' hms hex=>by
  unfold effO
  rw[hex]
  refine⟨S,ρ,_,_,⟨rfl,rfl⟩, ?_⟩
  rw[hd]
  refine R.set (ob:=mpO ke ve l ck) hR hH g1 rfl rfl (fun _=>rfl) (zm1 _ _) ⟨B,ms',rfl,zJ1 g2,by rw[hms,List.map_map];rfl,fun e he=>?_⟩
  obtain⟨e',_,rfl⟩:=List.mem_map.1 he
  exact .s _
 cases hp:kpos k (l.map (·.2.1)) 0 with
 | none=>
  rw[f2 hp] at f1
  have hn:=q1 hp
  refine fin (ms.push ⟨ke.v k,ve.v z,ck⟩) ?_ ?_
  ·rw[zJ2 hn,Array.toList_push,g3,List.map_append];rfl
  ·have:mclk ck k l=ck+1:=by unfold mclk;rw[hn];rfl
   rw[this]
   simp only[execOp,ho,h1,h2,h3,Instr.mapUpdate,Sem.run_bind,zJ ht,Result.andThen_ok,zQ3 g2,hk.chk,f1,zZ8 g2,Sem.run_pure]
 | some j=>
  obtain⟨m,f4,f5⟩:=f3 j hp
  obtain⟨_,e,q3,q4,q5⟩:=q2 j hp
  rw[f5] at f1
  rw[Nat.sub_zero] at q3
  have hmk:m.key=ke.v k:=by
   rw[g3,List.getElem?_map,q3] at f4
   simp only[Option.map_some,Option.some.injEq] at f4
   rw[←f4,←q5]
  have hst:(Instr.keyThatStays (((ms[j]?).map (·.key)).getD (ke.v k)) (ke.v k)).run P w = .ok (ke.v k) w:=by
   rw[←Array.getElem?_toList,f4]
   simp only[Option.map_some,Option.getD_some,hmk]
   unfold Instr.keyThatStays
   rw[if_pos (hk.bits k)]
   rfl
  refine fin (ms.modify j fun e=>{ e with key:=ke.v k,val:=ve.v z }) ?_ ?_
  ·obtain⟨_,q6⟩:=zg7 (ck:=ck) (b:=z) hp
   rw[q6,Array.toList_modify,g3,Nat.sub_zero]
   refine List.ext_getElem? fun i=>?_
   simp only[List.getElem?_modify,List.getElem?_map]
   cases hl:l[i]? with
   | none=>simp
   | some e2=>by_cases hij:j=i <;> simp[hij]
  ·have:mclk ck k l=ck:=by unfold mclk;rw[q4];rfl
   rw[this]
   simp only[execOp,ho,h1,h2,h3,Instr.mapUpdate,Sem.run_bind,zJ ht,Result.andThen_ok,zQ3 g2,hk.chk,f1,hst,zZ8 g2,Sem.run_pure]
theorem zi9 {α β:Type} {ke:Enc α} {ve:Enc β} {t kt et:TypeId} {x:Operand} {b ck d:Nat} {l:List (Nat × α × β)} (ho:o.op = .range t x) (hd:o.dst=some d) (hN:d < N) (ht:P.underlying t=some (.map kt et)) (hx:ev F x=some (.mp b)) (hH:H[b]?=some (mpO ke ve l ck)) :
    Ef P N E o F H fun F' H'=>F'=(d,.p H.length 0 0) :: F∧H'=H++[.itr b ck [] ck]:=
 zT9 hd hN ⟨rfl,rfl⟩ fun S ρ a w hR=>by
  obtain⟨h1,h2⟩:=hR.ev hx
  obtain⟨B,ms,g1,g2,g3⟩:=zF4 hR.hp hH
  simp only[AV.den,g1] at h1
  have hblt:b < H.length:=(List.getElem?_eq_some_iff.1 hH).1
  refine⟨S,ρ++[some w.heap.size],w.alloc (.mapIter (some B) ck #[] ck), ?_, ?_,zV4 hR.hp _⟩
  ·rw[zs4 hR.hp]
   simp only[execOp,ho,h1,Instr.range,Sem.run_bind,zJ ht,Result.andThen_ok,zQ3 g2,Sem.run_pure,run_newObj,World.alloc_eq]
  ·have hat:atB (ρ++[some w.heap.size]) b=some B:=by rw[zr,if_neg (by rw[hR.hp.len];omega)];exact g1
   exact hR.newO _ (.itr b ck [] ck) ⟨_,rfl,by rw[zq2,hat],by simp;omega,by rw[hat];rfl⟩
theorem zp11 {α β:Type} {ke:Enc α} {ve:Enc β} {x:Operand} {bi b ck since last d:Nat} {seen:List Nat} {l:List (Nat × α × β)} (ho:o.op = .next x false) (hd:o.dst=some d) (hN:d < N) (hx:ev F x=some (.p bi 0 0)) (hi:H[bi]?=some (.itr b since seen last)) (hH:H[b]?=some (mpO ke ve l ck))
    (hs:∀e∈l,e.1 < since) (hl:since≤last) :
    Ef P N E o F H fun F' H'=>(∃e∈l,e.1∉seen∧F'=(d,.t [.c (.s (.bool true)),ke.x e.2.1,ve.x e.2.2]) :: F∧H'=H.set bi (.itr b since (seen++[e.1]) ck))∨((∀e∈l,e.1∈seen)∧F'=(d,.t [.c (.s (.bool false))]) :: F∧H'=H):=fun S ρ a w hR=>by
 obtain⟨h1,_⟩:=hR.ev hx
 obtain⟨B,ms,g1,g2,g3⟩:=zF4 hR.hp hH
 obtain⟨Bi,i1,i2,i3,i4⟩:=hR.hp.blk bi _ hi
 have hz:szAt H bi=0:=by unfold szAt;rw[hi];rfl
 simp only[AV.den,i1,hz,Option.map_some,Nat.mul_zero,Nat.add_zero,Nat.zero_add] at h1
 rw[g1] at i2
 have hold:∀x∈ms.toList,x.born < since:=fun x hx=>by
  rw[g3] at hx
  obtain⟨e,he,rfl⟩:=List.mem_map.1 hx
  exact hs e he
 unfold effO
 rcases run_next_at (P:=P) w o.type Bi B since last seen.toArray ms ck i2 g2 hold hl with⟨q0,hrun⟩|⟨e,he,w1,hw1,hrun⟩
 ·have hex:(execOp a.eval o).run P w = .ok (.value (.tuple #[.bool false])) w:=by
   simp only[execOp,ho,h1,Sem.run_bind,hrun,Result.andThen_ok,Sem.run_pure]
  rw[hex]
  refine⟨S,ρ,_,_,.inr ⟨fun e he=>?_,rfl,rfl⟩, ?_⟩
  ·have hm:(⟨ke.v e.2.1,ve.v e.2.2,e.1⟩:MapEntry)∈ms.toList:=by rw[g3];exact List.mem_map.2 ⟨e,he,rfl⟩
   have h0:leftOf ms seen.toArray=#[]:=Array.eq_empty_of_size_eq_zero q0
   unfold leftOf at h0
   rw[Array.filter_eq_empty_iff] at h0
   have:=h0 _ (Array.mem_toList_iff.1 hm)
   simpa using this
  ·rw[hd]
   exact hR.put (x:=.t [.c (.s (.bool false))]) hN (.t fun y hy=>by rw[List.mem_singleton.1 hy];exact .c (.s _))
 ·have hex:(execOp a.eval o).run P w = .ok (.value (.tuple #[.bool true,e.key,e.val])) (zp w1 Bi (.mapIter (some B) since (seen.toArray.push e.born) ck)):=by
   simp only[execOp,ho,h1,Sem.run_bind,hrun,Result.andThen_ok,Sem.run_pure]
   rfl
  rw[hex]
  have he':e∈ms.toList∧e.born∉seen:=by
   unfold leftOf at he
   simpa using he
  obtain⟨e2,he2,rfl⟩:∃e2∈l,(⟨ke.v e2.2.1,ve.v e2.2.2,e2.1⟩:MapEntry)=e:=by
   have:=he'.1
   rw[g3] at this
   obtain⟨e2,q1,q2⟩:=List.mem_map.1 this
   exact⟨e2,q1,q2⟩
  have hR1:R N E S ρ F H a w1:=by rcases hw1 with rfl|rfl <;> first|exact hR|exact hR.drew
  have hi1:w1.heap[Bi]?=some (.mapIter (some B) since seen.toArray last):=by rcases hw1 with rfl|rfl <;> exact i2
  refine⟨S,ρ,_,_,.inl ⟨e2,he2,he'.2,rfl,rfl⟩, ?_⟩
  rw[hd]
  have hset:=R.set (ob:=.itr b since seen last) (ob':=.itr b since (seen++[e2.1]) ck) (cob:=.mapIter (some B) since (seen.toArray.push e2.1) ck) hR1 hi i1 rfl rfl (fun h=>absurd rfl h) (zm1 _ _) ⟨Bi,rfl,by rw[zJ1 hi1,g1];simp,by simpa using i3,i4⟩
  have:=hset.put (d:=d) (x:=.t [.c (.s (.bool true)),ke.x e2.2.1,ve.x e2.2.2]) hN (.t fun y hy=>by
   simp only[List.mem_cons,List.not_mem_nil,or_false] at hy
   rcases hy with rfl|rfl|rfl
   ·exact .c (.s _)
   ·exact ke.wf _ _ _ _ _
   ·exact ve.wf _ _ _ _ _)
  simpa [AV.den,AV.denL,ke.den,ve.den,CV.den] using this
theorem zQ8 {α β:Type} {ke:Enc α} {ve:Enc β} {x:Operand} {bi b ck since:Nat} {seen:List Nat} {l:List (Nat × α × β)} {e:Nat × α × β} (ho:o.op = .entry x) (hx:ev F x=some (.p bi 0 0)) (hi:H[bi]?=some (.itr b since (seen++[e.1]) ck)) (hH:H[b]?=some (mpO ke ve l ck)) (he:e∈l) (hn:(l.map (·.1)).Nodup) :
    Rd P N E o F H (.t [ke.x e.2.1,ve.x e.2.2]):=fun S ρ a w hR=>by
 obtain⟨h1,_⟩:=hR.ev hx
 obtain⟨B,ms,g1,g2,g3⟩:=zF4 hR.hp hH
 obtain⟨Bi,i1,i2,i3,i4⟩:=hR.hp.blk bi _ hi
 have hz:szAt H bi=0:=by unfold szAt;rw[hi];rfl
 simp only[AV.den,i1,hz,Option.map_some,Nat.mul_zero,Nat.add_zero,Nat.zero_add] at h1
 rw[g1] at i2
 have hrun:=run_entry_at (P:=P) w Bi B since seen.toArray ms ck ⟨ke.v e.2.1,ve.v e.2.2,e.1⟩ (by rw[i2];simp) g2 (by rw[g3];exact List.mem_map.2 ⟨e,he,rfl⟩) (by rw[g3,List.map_map];exact hn)
 refine⟨?_,.t fun y hy=>?_⟩
 ·simp only[execOp,ho,h1,Sem.run_bind,hrun,Result.andThen_ok,Sem.run_pure,AV.den,AV.denL,ke.den,ve.den]
 ·simp only[List.mem_cons,List.not_mem_nil,or_false] at hy
  rcases hy with rfl|rfl
  ·exact ke.wf _ _ _ _ _
  ·exact ve.wf _ _ _ _ _
end
end Go.Proofs.YtophoepbedlhjaaGreatDoor
-- NEWM
namespace Go.Proofs.YtophoepbedlhjaaGreatDoor
open Go Go.RowKit
set_option maxRecDepth 100000
abbrev noRs (l:List Nt):List (List CV):=l.map noR
def encO:Enc (List UInt8 × Int):=⟨fun s=>.agg #[.string (bst s.1),.int .i64 s.2],fun s=>.a [.c (T s.1),.c (I s.2)],fun s ρ H=>by simp[AV.den,AV.denL,CV.den],fun s w S ρ H=>.a fun x hx=>by
 simp only[List.mem_cons,List.not_mem_nil,or_false] at hx
 rcases hx with rfl|rfl
 ·exact .c (.s _)
 ·exact .c (.s _)⟩
def encB:Enc Bool:=⟨fun b=>.bool b,fun b=>.c (B b),fun b ρ H=>rfl,fun b w S ρ H=>.c (.s _)⟩
theorem chkI (b:Bool) (z:Int) (w:World):(Instr.checkKey b 9999 3 (.int .i64 z)).run Tryz.prog w = .ok () w:=by
 rw[show (9999:Nat)=9998+1 from rfl,Instr.checkKey]
 simp only[Sem.run_bind,zJ Tryz.underlying3,Result.andThen_ok]
 rfl
theorem chkSt (b:Bool) (s:ByteArray) (w:World):(Instr.checkKey b 9999 9 (.string s)).run Tryz.prog w = .ok () w:=by
 rw[show (9999:Nat)=9998+1 from rfl,Instr.checkKey]
 simp only[Sem.run_bind,zJ Tryz.underlying9,Result.andThen_ok]
 rfl
theorem keyOe (a c:List UInt8) (b d:Int) (w:World):(Op.equal 172 (.agg #[.string (bst a),.int .i64 b]) (.agg #[.string (bst c),.int .i64 d])).run Tryz.prog w = .ok (decide (a=c) && b == d) w:=by
 have u3:=Tryz.underlying3
 have a3:=Tryz.isAgg3
 have z3:=Tryz.sizeOf3
 have u9:=Tryz.underlying9
 have a9:=Tryz.isAgg9
 have z9:=Tryz.sizeOf9
 have hS:Tryz.prog.underlying 172=some (.struct (Tryz.prog.fieldsOf 172)):=by kernel_rfl
 have hp:Tryz.prog.stoodInHeld 172=false:=by kernel_rfl
 unfold Op.equal Op.maxDepth
 rw[show (10000:Nat)=9999+1 from rfl,run_equalIn_agg w 9999 172 _ _ hS hp]
 simp only[Program.fieldsOf,Tryz.underlying172]
 have e1:(a=c)=((bst a).toList=(bst c).toList):=by rw[zZ1,zZ1]
 go_simp
 simp only[zZ1]
 by_cases h1:a=c <;> by_cases h2:b=d <;> simp[h1,h2]
theorem keyOc (em:Bool) (a:ByteArray) (b:Int) (w:World):(Instr.checkKey em 10000 172 (.agg #[.string a,.int .i64 b])).run Tryz.prog w = .ok () w:=by
 have u3:=Tryz.underlying3
 have a3:=Tryz.isAgg3
 have z3:=Tryz.sizeOf3
 have u9:=Tryz.underlying9
 have a9:=Tryz.isAgg9
 have z9:=Tryz.sizeOf9
 have hc:=chkI em
 have hs:=chkSt em
 rw[show (10000:Nat)=9999+1 from rfl,Instr.checkKey]
 simp only[Sem.run_bind,zJ Tryz.underlying172,Result.andThen_ok]
 go_simp
theorem keyO:KeyOk Tryz.prog 172 encO:=by
 refine .ask Tryz.underlying172 (fun _ _=>rfl) (fun a b w=>?_) (fun b a w=>keyOc _ _ _ w) (fun a=>?_)
 ·simp only[encO]
  rw[keyOe]
  congr 1
  obtain⟨a1,a2⟩:=a
  obtain⟨b1,b2⟩:=b
  rw[Bool.eq_iff_iff]
  simp
 ·simp[encO,Instr.sameBits]
  first|exact beq_self_eq_true _|exact(show ((bst a.fst).data == (bst a.fst).data)=true by simp)|rfl
end Go.Proofs.YtophoepbedlhjaaGreatDoor
