/- Closed calls: readers of own memory, in parts. Conditions: none. -/
import Derived.Test.YtophoepbedlhjaaGreatDoorQat
import Derived.Test.YtophoepbedlhjaaGreatDoorQak
import Derived.LoopN
set_option linter.unusedSimpArgs false
set_option linter.unusedVariables false
-- NEWM
namespace Go.Proofs.YtophoepbedlhjaaGreatDoor
open Go Go.RowKit
set_option maxRecDepth 100000
end Go.Proofs.YtophoepbedlhjaaGreatDoor
namespace Go.Proofs.YtophoepbedlhjaaGreatDoor
open Go Go.RowKit
set_option maxRecDepth 100000
inductive XT (α:Type) where
 | nil
 | node (l:XT α) (v:Option α) (r:XT α)
def XT.get {α:Type}:XT α→Nat→Option α
 | .nil,_=>none
 | .node l v r,k=>match k with
  | 0=>v
  | k+1=>match Nat.mod k 2 with
   | 0=>l.get (Nat.div k 2)
   | _+1=>r.get (Nat.div k 2)
def XT.set {α:Type}:Nat→XT α→Nat→α→XT α
 | 0,t,_,_=>t
 | n+1,.nil,k,x=>(match k with
  | 0=>.node .nil (some x) .nil
  | k+1=>match Nat.mod k 2 with
   | 0=>.node (XT.set n .nil (Nat.div k 2) x) none .nil
   | _+1=>.node .nil none (XT.set n .nil (Nat.div k 2) x))
 | n+1,.node l v r,k,x=>(match k with
  | 0=>.node l (some x) r
  | k+1=>match Nat.mod k 2 with
   | 0=>.node (XT.set n l (Nat.div k 2) x) v r
   | _+1=>.node l v (XT.set n r (Nat.div k 2) x))
theorem XT.get_set {α:Type}:∀(n:Nat) (t:XT α) (k:Nat) (x:α) (j:Nat),k+1 < 2 ^ n→(XT.set n t k x).get j=if j=k then some x else t.get j
 | 0,t,k,x,j,h=>by omega
 | n+1,t,k,x,j,h=>by
  have key:∀(l r:XT α) (v:Option α),(XT.set (n+1) (.node l v r) k x).get j=if j=k then some x else (XT.node l v r).get j:=fun l r v=>by
   cases k with
   | zero=>
    cases j with
    | zero=>rfl
    | succ j=>simp[XT.set,XT.get]
   | succ k=>
    have hk:Nat.div k 2+1 < 2 ^ n:=by
     have:(2:Nat) ^ (n+1)=2*2 ^ n:=by rw[Nat.pow_succ,Nat.mul_comm]
     have h2:Nat.div k 2=k / 2:=rfl
     omega
    have hm:Nat.mod k 2=k % 2:=rfl
    cases j with
    | zero=>
     have h0:¬(0=k+1):=by omega
     unfold XT.set
     simp only
     split <;> simp[XT.get]
    | succ j=>
     have hd:∀a:Nat,Nat.div a 2=a / 2:=fun _=>rfl
     have hmj:∀a:Nat,Nat.mod a 2=a % 2:=fun _=>rfl
     rcases Nat.mod_two_eq_zero_or_one k with h1|h1 <;> rcases Nat.mod_two_eq_zero_or_one j with h2|h2
     ·have ih:=XT.get_set n l (Nat.div k 2) x (Nat.div j 2) hk
      have e1:XT.set (n+1) (.node l v r) (k+1) x = .node (XT.set n l (Nat.div k 2) x) v r:=by rw[XT.set];simp only[hmj,h1]
      rw[e1,XT.get,XT.get]
      simp only[hmj,h2]
      rw[ih]
      simp only[hd]
      by_cases he:j=k
      ·subst he;simp
      ·rw[if_neg (by omega),if_neg (by omega)]
     ·have e1:XT.set (n+1) (.node l v r) (k+1) x = .node (XT.set n l (Nat.div k 2) x) v r:=by rw[XT.set];simp only[hmj,h1]
      rw[e1,XT.get,XT.get]
      simp only[hmj,h2]
      rw[if_neg (by omega)]
     ·have e1:XT.set (n+1) (.node l v r) (k+1) x = .node l v (XT.set n r (Nat.div k 2) x):=by rw[XT.set];simp only[hmj,h1]
      rw[e1,XT.get,XT.get]
      simp only[hmj,h2]
      rw[if_neg (by omega)]
     ·have ih:=XT.get_set n r (Nat.div k 2) x (Nat.div j 2) hk
      have e1:XT.set (n+1) (.node l v r) (k+1) x = .node l v (XT.set n r (Nat.div k 2) x):=by rw[XT.set];simp only[hmj,h1]
      rw[e1,XT.get,XT.get]
      simp only[hmj,h2]
      rw[ih]
      simp only[hd]
      by_cases he:j=k
      ·subst he;simp
      ·rw[if_neg (by omega),if_neg (by omega)]
  cases t with
  | node l v r=>exact key l r v
  | nil=>
   have e:XT.set (n+1) (.nil:XT α) k x=XT.set (n+1) (.node .nil none .nil) k x:=by
    unfold XT.set
    cases k with
    | zero=>rfl
    | succ k=>rfl
   rw[e,key .nil .nil none]
   split
   ·rfl
   ·cases j with
    | zero=>rfl
    | succ j=>simp only[XT.get];split <;> rfl
def xdepth:Nat:=20
def xcap:Nat:=1048575
inductive XV where
 | v (x:Value)
 | p (b j:Nat)
 | sl (b k n c:Nat)
 | sg (b k n e:Nat)
 | se (b k q e:Nat)
 | m (b:Nat)
 | a (l:List XV)
 | t (l:List XV)
 | f (fn:FuncId) (caps:List XV)
 | yl (b:Nat)
inductive XB where
 | cells (e:TypeId) (cs:List XV)
 | grown (e:TypeId) (sz:Nat) (cs:List XV)
 | map (es:List (Value × XV)) (bs:List Nat) (ck:Nat)
 | iter (m since:Nat) (seen:List Nat) (last:Nat)
 | dead
mutual
def XV.den (ρ γ:Nat→Nat):XV→Value
 | .v x=>x
 | .p b j=>.pointer (some ⟨ρ b,j,none⟩)
 | .sl b k n c=>.slice (some ⟨ρ b,k,none⟩) n c
 | .sg b k n e=>.slice (some ⟨ρ b,k,none⟩) n (γ b - e)
 | .se b k q e=>.slice (some ⟨ρ b,if γ b=e then k else q,none⟩) 0 (γ b - e)
 | .m b=>.map (some (ρ b))
 | .a l=>.agg (XV.denL ρ γ l).toArray
 | .t l=>.tuple (XV.denL ρ γ l).toArray
 | .f fn caps=>.func (.func fn) #[] (XV.denL ρ γ caps).toArray
 | .yl b=>.func (.yield (ρ b)) #[] #[]
def XV.denL (ρ γ:Nat→Nat):List XV→List Value
 | []=>[]
 | x :: l=>x.den ρ γ :: XV.denL ρ γ l
end
theorem XV.denL_eq (ρ γ:Nat→Nat):∀l,XV.denL ρ γ l=l.map (XV.den ρ γ)
 | []=>rfl
 | x :: l=>by rw[XV.denL,XV.denL_eq ρ γ l];rfl
mutual
/-- All blocks that are named are there, with room enough. -/
def XV.ok (A:Nat→Nat→Prop):XV→Prop
 | .v _=>True
 | .p b _=>A b 0
 | .sl b _ _ _=>A b 0
 | .sg b _ n e=>A b (n+e)
 | .se b _ _ e=>A b e
 | .m b=>A b 0
 | .a l=>XV.okL A l
 | .t l=>XV.okL A l
 | .f _ l=>XV.okL A l
 | .yl b=>A b 0
def XV.okL (A:Nat→Nat→Prop):List XV→Prop
 | []=>True
 | x :: l=>x.ok A∧XV.okL A l
end
theorem XV.okL_iff {A:Nat→Nat→Prop}:∀{l:List XV},XV.okL A l↔∀x∈l,x.ok A
 | []=>by simp[XV.okL]
 | x :: l=>by simp[XV.okL,XV.okL_iff (l:=l)]
theorem XV.induct {Pr:XV→Prop} (hv:∀x,Pr (.v x)) (hp:∀b j,Pr (.p b j)) (hs:∀b k n c,Pr (.sl b k n c)) (hg:∀b k n e,Pr (.sg b k n e)) (he:∀b k q e,Pr (.se b k q e)) (hm:∀b,Pr (.m b)) (ha:∀l,(∀x∈l,Pr x)→Pr (.a l)) (ht:∀l,(∀x∈l,Pr x)→Pr (.t l)) (hf:∀fn l,(∀x∈l,Pr x)→Pr (.f fn l)) (hy:∀b,Pr (.yl b)):∀x,Pr x:=by
 intro x
 refine XV.rec (motive_1:=Pr) (motive_2:=fun l=>∀x∈l,Pr x) hv hp hs hg he hm (fun l h=>ha l h) (fun l h=>ht l h) (fun fn l h=>hf fn l h) hy (fun x h=>by cases h) (fun x l h1 h2 y hy=>?_) x
 rcases List.mem_cons.1 hy with rfl|hy
 ·exact h1
 ·exact h2 y hy
theorem XV.den_same {ρ γ ρ' γ':Nat→Nat} {A:Nat→Nat→Prop} (h:∀b m,A b m→ρ' b=ρ b∧γ' b=γ b) (x:XV):x.ok A→x.den ρ' γ'=x.den ρ γ:=by
 refine XV.induct (Pr:=fun x=>x.ok A→x.den ρ' γ'=x.den ρ γ) ?_ ?_ ?_ ?_ ?_ ?_ ?_ ?_ ?_ ?_ x
 ·intro x _;rfl
 ·intro b j hb;simp only[XV.den,(h _ _ hb).1]
 ·intro b k m c hb;simp only[XV.den,(h _ _ hb).1]
 ·intro b k m e hb;simp only[XV.den,(h _ _ hb).1,(h _ _ hb).2]
 ·intro b k q e hb;simp only[XV.den,(h _ _ hb).1,(h _ _ hb).2]
 ·intro b hb;simp only[XV.den,(h _ _ hb).1]
 ·intro l ih hl;rw[XV.ok,XV.okL_iff] at hl;simp only[XV.den,XV.denL_eq];rw[List.map_congr_left fun x hx=>ih x hx (hl x hx)]
 ·intro l ih hl;rw[XV.ok,XV.okL_iff] at hl;simp only[XV.den,XV.denL_eq];rw[List.map_congr_left fun x hx=>ih x hx (hl x hx)]
 ·intro fn l ih hl;rw[XV.ok,XV.okL_iff] at hl;simp only[XV.den,XV.denL_eq];rw[List.map_congr_left fun x hx=>ih x hx (hl x hx)]
 ·intro b hb;simp only[XV.den,(h _ _ hb).1]
theorem XV.ok_mono {A B:Nat→Nat→Prop} (h:∀b m,A b m→B b m) (x:XV):x.ok A→x.ok B:=by
 refine XV.induct (Pr:=fun x=>x.ok A→x.ok B) ?_ ?_ ?_ ?_ ?_ ?_ ?_ ?_ ?_ ?_ x
 ·intro x _;trivial
 ·intro b j hb;exact h _ _ hb
 ·intro b k m c hb;exact h _ _ hb
 ·intro b k m e hb;exact h _ _ hb
 ·intro b k q e hb;exact h _ _ hb
 ·intro b hb;exact h _ _ hb
 ·intro l ih hl;rw[XV.ok,XV.okL_iff] at hl ⊢;exact fun x hx=>ih x hx (hl x hx)
 ·intro l ih hl;rw[XV.ok,XV.okL_iff] at hl ⊢;exact fun x hx=>ih x hx (hl x hx)
 ·intro fn l ih hl;rw[XV.ok,XV.okL_iff] at hl ⊢;exact fun x hx=>ih x hx (hl x hx)
 ·intro b hb;exact h _ _ hb
def XOwn (w:World) (ρ γ:Nat→Nat) (B g:Nat):XB→Prop
 | .cells e cs=>w.heap[B]?=some (.cells (cs.map (XV.den ρ γ)).toArray e (0,0))∧∀x∈cs,(x.den ρ γ).oneCell'=true
 | .grown e sz cs=>∃arr,w.heap[B]?=some (.cells arr e (0,0))∧arr.size=g*sz∧g≤maxLen∧cs.length≤arr.size∧∀(i:Nat) (x:XV),cs[i]?=some x→arr[i]?=some (x.den ρ γ)∧(x.den ρ γ).oneCell'=true
 | .map es bs ck=>∃ms,w.heap[B]?=some (.map ms ck)∧ms.toList.map (fun m=>(m.key,m.val))=es.map (fun p=>(p.1,p.2.den ρ γ))∧ms.toList.map (·.born)=bs
 | .iter m since seen last=>w.heap[B]?=some (.mapIter (some (ρ m)) since seen.toArray last)
 | .dead=>True
def XB.ok (A:Nat→Nat→Prop):XB→Prop
 | .cells _ cs=>XV.okL A cs
 | .grown _ _ cs=>XV.okL A cs
 | .map es _ _=>∀p∈es,p.2.ok A
 | .iter m _ _ _=>A m 0
 | .dead=>True
def XB.live:XB→Bool
 | .dead=>false
 | _=>true
abbrev XHp:=XT XB
abbrev XFr:=XT XV
def XT.has {α:Type} (t:XT α) (γ:Nat→Nat) (b m:Nat):Prop:=(t.get b).isSome=true∧m≤γ b
structure XEnv where
 w:World
 X:Nat→Option Obj
 own:List Nat
structure XBs (E:XEnv) (w':World):Prop extends Stp E.w w' (fun _=>False) where
 fx:∀B ob,E.X B=some ob→w'.heap[B]?=some ob
theorem XBs.lt {E:XEnv} {w':World} (h:XBs E w') {B:Nat} {ob:Obj} (hB:E.X B=some ob):B < w'.heap.size:=(Array.getElem?_eq_some_iff.1 (h.fx B ob hB)).1
theorem XBs.new {E:XEnv} {w':World} (h:XBs E w'):E.X w'.heap.size=none:=by
 cases hX:E.X w'.heap.size with
 | none=>rfl
 | some ob=>exact absurd (h.lt hX) (Nat.lt_irrefl _)
theorem XBs.alloc {E:XEnv} {w':World} (h:XBs E w') (o:Obj):XBs E (w'.alloc o):=⟨h.toStp.alloc o,fun B ob hB=>(Below.heap_alloc w' o B (h.lt hB)).trans (h.fx B ob hB)⟩
theorem XBs.drew {E:XEnv} {w':World} (h:XBs E w'):XBs E w'.drew:=⟨h.toStp.drew,h.fx⟩
structure XH (w0:XEnv) (ρ γ:Nat→Nat) (H:XHp) (w:World):Prop where
 nd:∀i j o o',H.get i=some o→H.get j=some o'→o.live=true→o'.live=true→ρ i=ρ j→i=j
 hi:∀i o,H.get i=some o→o.live=true→w0.w.heap.size≤ρ i∧ρ i < w.heap.size
 ap:∀i o,H.get i=some o→o.live=true→w0.X (ρ i)=none
 bl:∀i o,H.get i=some o→o.ok (H.has γ)∧XOwn w ρ γ (ρ i) (γ i) o
 st:XBs w0 w
structure XR (N:Nat) (w0:XEnv) (ρ γ:Nat→Nat) (F:XFr) (H:XHp) (a:Act) (w:World):Prop where
 df:a.defers=w0.own.map (fun D=>⟨.collected D,#[]⟩)∧w0.own.Nodup∧∀D∈w0.own,w0.X D=some (.deferred (some []))∧w0.w.heap.size≤D
 sz:N≤a.tmps.size
 fr:∀i x,F.get i=some x→a.tmps[i]?=some (x.den ρ γ)∧x.ok (H.has γ)
 hp:XH w0 ρ γ H w
def xev (F:XFr):Operand→Option XV
 | .tmp t=>F.get t
 | .const v=>some (.v v)
 | .func f=>some (.f f [])
 | .global _=>none
section
variable {N:Nat} {w0:XEnv} {ρ γ:Nat→Nat} {F:XFr} {H:XHp} {a:Act} {w:World}
theorem XR.ev {x:Operand} {v:XV} (h:XR N w0 ρ γ F H a w) (hx:xev F x=some v):a.eval x=v.den ρ γ∧v.ok (H.has γ):=by
 cases x with
 | tmp t=>
  obtain⟨h1,h2⟩:=h.fr t v hx
  exact⟨by rw[Act.eval,Array.getD_eq_getD_getElem?,h1];rfl,h2⟩
 | const c=>
  simp only[xev,Option.some.injEq] at hx
  subst hx
  exact⟨rfl,trivial⟩
 | func f=>
  simp only[xev,Option.some.injEq] at hx
  subst hx
  exact⟨rfl,trivial⟩
 | global g=>cases hx
def xput (N:Nat) (F:XFr) (d:Nat) (x:XV):Option XFr:=bif Nat.blt d N && Nat.blt d xcap then some (XT.set xdepth F d x) else none
theorem zc2 {F':XFr} {d:Nat} {x:XV} (h:xput N F d x=some F'):d < N∧∀i,F'.get i=if i=d then some x else F.get i:=by
 unfold xput at h
 cases hc:(Nat.blt d N && Nat.blt d xcap) with
 | false=>rw[hc] at h;cases h
 | true=>
  rw[hc] at h
  injection h with h
  subst h
  simp only[Bool.and_eq_true,Nat.blt_eq] at hc
  exact⟨hc.1,fun i=>XT.get_set xdepth F d x i (by have:=hc.2;simp only[xcap,xdepth] at *;omega)⟩
theorem XR.put {F':XFr} {d:Nat} {x:XV} (h:XR N w0 ρ γ F H a w) (hp:xput N F d x=some F') (hx:x.ok (H.has γ)):XR N w0 ρ γ F' H (a.put (some d) (x.den ρ γ)) w:=by
 obtain⟨hd,hg⟩:=zc2 hp
 refine⟨h.df,by simpa [Act.put] using h.sz,fun i y hy=>?_,h.hp⟩
 rw[hg] at hy
 by_cases hi:i=d
 ·subst hi
  rw[if_pos rfl] at hy
  injection hy with hy
  subst hy
  have:=h.sz
  exact⟨by simp[Act.put,Array.getElem?_setIfInBounds];omega,hx⟩
 ·rw[if_neg hi] at hy
  obtain⟨h1,h2⟩:=h.fr i y hy
  exact⟨by simp only[Act.put];rw[Array.getElem?_setIfInBounds_ne (Ne.symm hi)];exact h1,h2⟩
end
end Go.Proofs.YtophoepbedlhjaaGreatDoor
namespace Go.Proofs.YtophoepbedlhjaaGreatDoor
open Go Go.RowKit
set_option maxRecDepth 100000
def semPure {α:Type} (P:Program):Sem α→Option α
 | .pure a=>some a
 | .program k=>semPure P (k P)
 | .mark _ k=>semPure P k
 | .choose q k=>bif q.forced then semPure P (k 0) else none
 | _=>none
theorem zM {α:Type} {P:Program} (w:World):∀{s:Sem α} {a:α},semPure P s=some a→s.run P w = .ok a w:=by
 intro s
 induction s with
 | pure a=>intro b h;injection h with h;subst h;rfl
 | program k ih=>intro b h;exact ih P h
 | mark m k ih=>intro b h;exact ih h
 | choose q k ih=>
  intro b h
  unfold semPure at h
  cases hq:q.forced with
  | false=>rw[hq] at h;cases h
  | true=>
   rw[hq] at h
   simp only[Sem.run,hq,if_true]
   exact ih 0 h
 | _=>intro b h;cases h
def xnorm:Value→XV
 | .agg cs=>.a (cs.toList.map .v)
 | .tuple cs=>.t (cs.toList.map .v)
 | v=>.v v
theorem zP1 (ρ γ:Nat→Nat) (v:Value):(xnorm v).den ρ γ=v:=by
 unfold xnorm
 split
 ·simp[XV.den,XV.denL_eq,Function.comp_def]
 ·simp[XV.den,XV.denL_eq,Function.comp_def]
 ·rfl
theorem zq2 (A:Nat→Nat→Prop) (v:Value):(xnorm v).ok A:=by
 unfold xnorm
 split
 ·rw[XV.ok,XV.okL_iff];intro x hx;obtain⟨u,_,rfl⟩:=List.mem_map.1 hx;trivial
 ·rw[XV.ok,XV.okL_iff];intro x hx;obtain⟨u,_,rfl⟩:=List.mem_map.1 hx;trivial
 ·trivial
def xplL:List XV→Option (List Value)
 | []=>some []
 | .v u :: l=>(match xplL l with
  | some us=>some (u :: us)
  | none=>none)
 | _ :: _=>none
theorem zD6 (ρ γ:Nat→Nat):∀{l:List XV} {us:List Value},xplL l=some us→XV.denL ρ γ l=us
 | [],us,h=>by cases h;rfl
 | .v u :: l,us,h=>by
  unfold xplL at h
  split at h
  ·rename_i vs hv;injection h with h;subst h;rw[XV.denL,zD6 ρ γ hv,XV.den]
  ·cases h
 | .p .. :: _,_,h=>by cases h
 | .sl .. :: _,_,h=>by cases h
 | .sg .. :: _,_,h=>by cases h
 | .se .. :: _,_,h=>by cases h
 | .m .. :: _,_,h=>by cases h
 | .a .. :: _,_,h=>by cases h
 | .t .. :: _,_,h=>by cases h
 | .f .. :: _,_,h=>by cases h
 | .yl .. :: _,_,h=>by cases h
def xpl:XV→Option Value
 | .v u=>some u
 | .a l=>(match xplL l with
  | some us=>some (.agg us.toArray)
  | none=>none)
 | _=>none
theorem zO14 (ρ γ:Nat→Nat) {x:XV} {u:Value} (h:xpl x=some u):x.den ρ γ=u:=by
 unfold xpl at h
 split at h
 ·cases h;rfl
 ·split at h
  ·rename_i us hu;injection h with h;subst h;simp only[XV.den,zD6 ρ γ hu]
  ·cases h
 ·cases h
def xevn (F:XFr) (x:Operand):Option XV:=match x with
 | .const v=>some (xnorm v)
 | x=>xev F x
def xevp (F:XFr) (x:Operand):Option Value:=match x with
 | .const v=>some v
 | x=>match xev F x with
  | some y=>xpl y
  | none=>none
def xcell (H:XHp) (b j:Nat):Option XV:=match H.get b with
 | some (.cells _ cs)=>cs[j]?
 | some (.grown _ _ cs)=>cs[j]?
 | _=>none
def xcellsN (H:XHp) (b j n:Nat):Option (List XV):=match H.get b with
 | some (.cells _ cs)=>let l:=(cs.drop j).take n;bif Nat.beq l.length n then some l else none
 | some (.grown _ _ cs)=>let l:=(cs.drop j).take n;bif Nat.beq l.length n then some l else none
 | _=>none
section
variable {P:Program} {N:Nat} {w0:XEnv} {ρ γ:Nat→Nat} {F:XFr} {H:XHp} {a:Act} {w:World} {o:Oper}
theorem XR.evn {x:Operand} {v:XV} (h:XR N w0 ρ γ F H a w) (hx:xevn F x=some v):a.eval x=v.den ρ γ∧v.ok (H.has γ):=by
 unfold xevn at hx
 split at hx
 ·injection hx with hx;subst hx;exact⟨(zP1 _ _ _).symm,zq2 _ _⟩
 ·exact h.ev hx
theorem XR.evp {x:Operand} {v:Value} (h:XR N w0 ρ γ F H a w) (hx:xevp F x=some v):a.eval x=v:=by
 unfold xevp at hx
 split at hx
 ·cases hx;rfl
 ·split at hx
  ·rename_i y hy;rw[(h.ev hy).1];exact zO14 _ _ hx
  ·cases hx
theorem XH.cell (h:XH w0 ρ γ H w) {b j:Nat} {x:XV} (hx:xcell H b j=some x):w.cell? ⟨ρ b,j,none⟩=some (x.den ρ γ)∧x.ok (H.has γ)∧(x.den ρ γ).oneCell'=true:=by
 unfold xcell at hx
 split at hx
 ·rename_i e cs hb
  obtain⟨h1,h2,h3⟩:=h.bl b _ hb
  rw[XB.ok,XV.okL_iff] at h1
  refine⟨?_,h1 x (List.mem_of_getElem? hx),h3 x (List.mem_of_getElem? hx)⟩
  unfold World.cell?
  rw[h2];simp[List.getElem?_map,hx]
 ·rename_i e sz cs hb
  obtain⟨h1,arr,h2,h3,h4,h5,h6⟩:=h.bl b _ hb
  rw[XB.ok,XV.okL_iff] at h1
  obtain⟨h7,h8⟩:=h6 j x hx
  refine⟨?_,h1 x (List.mem_of_getElem? hx),h8⟩
  unfold World.cell?
  rw[h2]
  simp[h7]
 ·cases hx
theorem zH3 {b n j:Nat} {l:List XV} (h:xcellsN H b j n=some l):l.length=n∧∀i x,l[i]?=some x→xcell H b (j+i)=some x:=by
 have key:∀cs:List XV,(bif Nat.beq ((cs.drop j).take n).length n then some ((cs.drop j).take n) else none)=some l→l.length=n∧∀i x,l[i]?=some x→cs[j+i]?=some x:=fun cs hc=>by
  cases hq:Nat.beq ((cs.drop j).take n).length n with
  | false=>rw[hq] at hc;cases hc
  | true=>
   rw[hq] at hc
   injection hc with hc
   subst hc
   refine⟨Nat.eq_of_beq_eq_true hq,fun i x hi=>?_⟩
   rw[List.getElem?_take] at hi
   split at hi
   ·rw[List.getElem?_drop] at hi;exact hi
   ·cases hi
 unfold xcellsN at h
 unfold xcell
 split at h
 ·exact key _ h
 ·exact key _ h
 ·cases h
def xload (P:Program) (t:TypeId) (H:XHp) (b j:Nat):Option XV:=match ldk P t with
 | some none=>xcell H b j
 | some (some n)=>(match xcellsN H b j n with
  | some l=>some (.a l)
  | none=>none)
 | none=>none
theorem zB9 {t:TypeId} {b j:Nat} {x:XV} (h:XH w0 ρ γ H w) (hx:xload P t H b j=some x):(Instr.loadAt t (.pointer (some ⟨ρ b,j,none⟩))).run P w = .ok (x.den ρ γ) w∧x.ok (H.has γ):=by
 unfold xload at hx
 split at hx
 ·rename_i hk
  obtain⟨h1,h2,_⟩:=h.cell hx
  generalize ρ b=B at h1 ⊢
  exact⟨by simp[Instr.loadAt,Instr.sureAddr,loadVar,(zU4 (w:=w) hk).1,h1],h2⟩
 ·rename_i n hk
  split at hx
  ·rename_i l hl
   injection hx with hx
   subst hx
   obtain⟨h1,h2⟩:=zH3 hl
   have hc:∀k,k < n→w.cell? ⟨ρ b,j+(0+k),none⟩=(l.map (XV.den ρ γ))[0+k]?:=fun k hk=>by
    have h3:l[k]?=some l[k]:=List.getElem?_eq_getElem (by omega)
    rw[Nat.zero_add,(h.cell (h2 k _ h3)).1,List.getElem?_map,h3];rfl
   have hl2:=zo1 (P:=P) (w:=w) (B:=ρ b) (off:=j) (vs:=l.map (XV.den ρ γ)) n 0 #[] hc (by simp[h1])
   refine⟨?_, ?_⟩
   ·simp only[Instr.loadAt,Instr.sureAddr,loadVar,loadCells,Sem.run_bind,Sem.run_pure,Result.andThen_ok,(zs2 (w:=w) hk).1,(zs2 (w:=w) hk).2,hl2,if_true,List.drop_zero,XV.den,XV.denL_eq]
    rw[List.take_of_length_le (by simp[h1])]
    simp
   ·rw[XV.ok,XV.okL_iff]
    intro x hx
    obtain⟨i,hi⟩:=List.getElem?_of_mem hx
    exact(h.cell (h2 i x hi)).2.1
  ·cases hx
 ·cases hx
end
end Go.Proofs.YtophoepbedlhjaaGreatDoor
namespace Go.Proofs.YtophoepbedlhjaaGreatDoor
open Go Go.RowKit
set_option maxRecDepth 100000
def xint (op:BinOp) (m n:Int):Option XV:=match op with
 | .add=>some (.v (.int .i64 (wrap64 (m+n))))
 | .sub=>some (.v (.int .i64 (wrap64 (m - n))))
 | .mul=>some (.v (.int .i64 (wrap64 (m*n))))
 | .quo=>if n=0 then none else some (.v (.int .i64 (wrap64 (m.tdiv n))))
 | .rem=>if n=0 then none else some (.v (.int .i64 (m.tmod n)))
 | .lss=>some (.v (.bool (decide (m < n))))
 | .leq=>some (.v (.bool (decide (m≤n))))
 | .gtr=>some (.v (.bool (decide (n < m))))
 | .geq=>some (.v (.bool (decide (n≤m))))
 | .eql=>some (.v (.bool (decide (m=n))))
 | .neq=>some (.v (.bool (decide (m≠n))))
 | _=>none
def xisnil (x y:XV):Option (TypeDesc→Option Bool):=match x,y with
 | .p _ _,.v (.pointer none)=>some fun d=>match d with | .pointer _=>some false|_=>none
 | .sl _ _ _ _,.v (.slice none _ _)=>some fun d=>match d with | .slice _=>some false|_=>none
 | .sg _ _ _ _,.v (.slice none _ _)=>some fun d=>match d with | .slice _=>some false|_=>none
 | .m _,.v (.map none)=>some fun d=>match d with | .map _ _=>some false|_=>none
 | .f _ _,.v .nilFunc=>some fun d=>match d with | .func _ _ _=>some false|_=>none
 | _,_=>none
section
variable {P:Program} {N:Nat} {w0:XEnv} {ρ γ:Nat→Nat} {F:XFr} {H:XHp} {a:Act} {w:World} {o:Oper}
theorem zQ14 {op:BinOp} {t yt:TypeId} {x y:Operand} {m n:Int} {v:XV} (h:xint op m n=some v) (ho:o.op = .binOp op t x y yt) (hx:a.eval x = .int .i64 m) (hy:a.eval y = .int .i64 n):(execOp a.eval o).run P w = .ok (.value (v.den ρ γ)) w∧v.ok (H.has γ):=by
 have hrun:∀r:Value,(do eqGuard op t x y (.int .i64 m) (.int .i64 n);binOp op t (.int .i64 m) (.int .i64 n):Sem Value).run P w = .ok r w→(execOp a.eval o).run P w = .ok (.value r) w:=fun r hr=>by
  simp only[execOp,ho,hx,hy]
  rw[Sem.run_bind,hr]
  rfl
 cases op <;> simp only[xint] at h
 all_goals first
  | (split at h
     ·cases h
     ·rename_i h0
      injection h with h;subst h;refine⟨hrun _ ?_,trivial⟩;simp[XV.den,eqGuard,binOp,Op.intDiv,h0,IntKind.wrap_i64,wrap64])
  | (injection h with h;subst h;refine⟨hrun _ ?_,trivial⟩;first|(simp[XV.den,eqGuard,binOp,Op.intArith,Op.intCmp,IntKind.wrap_i64,wrap64];done)|(simp[XV.den,eqGuard,binOp,Op.intArith,Op.intCmp,IntKind.wrap_i64,wrap64];rfl))
  | cases h
theorem zL {s:Sem Value} {u:Value} (h:semPure P s=some u):((do pure (.value (←s)):Sem Next)).run P w = .ok (.value u) w:=by
 have:=zM w h
 show (Sem.bind s fun v=>.pure (Next.value v)).run P w=_
 rw[show Sem.bind s (fun v=>.pure (Next.value v))=(s >>= fun v=>pure (Next.value v)) from rfl,Sem.run_bind,this]
 rfl
def xpure (P:Program) (F:XFr) (op:Op):Option Value:=match op with
 | .binOp b t x y _=>(match xevp F x,xevp F y with
  | some u,some v=>semPure P (do eqGuard b t x y u v;binOp b t u v)
  | _,_=>none)
 | .unOp b _ x=>(match xevp F x with
  | some u=>semPure P (Op.unary b u)
  | none=>none)
 | .convert s d x=>(match xevp F x with
  | some u=>semPure P (convert s d u)
  | none=>none)
 | .index t x i=>(match xevp F x,xevp F i with
  | some u,some v=>semPure P (Instr.index t u v)
  | _,_=>none)
 | .slice t x lo hi mx=>(match xevp F x,lo.map (xevp F),hi.map (xevp F),mx with
  | some u,none,none,none=>semPure P (Instr.sliceAt t u none none none)
  | some u,some (some l),none,none=>semPure P (Instr.sliceAt t u (some l) none none)
  | some u,none,some (some h),none=>semPure P (Instr.sliceAt t u none (some h) none)
  | some u,some (some l),some (some h),none=>semPure P (Instr.sliceAt t u (some l) (some h) none)
  | _,_,_,_=>none)
 | .call ⟨.builtin .len,⟨[x]⟩,ts⟩=>(match xevp F x with
  | some u=>semPure P (Builtin.len_ ts 0 #[u])
  | none=>none)
 | .call ⟨.builtin .min,⟨[x,y]⟩,ts⟩=>(match xevp F x,xevp F y with
  | some u,some v=>semPure P (Builtin.min_ ts 0 #[u,v])
  | _,_=>none)
 | .call ⟨.builtin .max,⟨[x,y]⟩,ts⟩=>(match xevp F x,xevp F y with
  | some u,some v=>semPure P (Builtin.max_ ts 0 #[u,v])
  | _,_=>none)
 | _=>none
theorem zn13 {u:Value} (h:xpure P F o.op=some u) (hR:XR N w0 ρ γ F H a w):(execOp a.eval o).run P w = .ok (.value u) w:=by
 unfold xpure at h
 split at h
 ·rename_i b t x y yt ho
  split at h
  ·rename_i u v hx hy
   have:=zL (w:=w) h
   simpa only[execOp,ho,hR.evp hx,hR.evp hy] using this
  ·cases h
 ·rename_i b t x ho
  split at h
  ·rename_i u hx
   have:=zL (w:=w) h
   simpa only[execOp,ho,hR.evp hx] using this
  ·cases h
 ·rename_i s d x ho
  split at h
  ·rename_i u hx
   have:=zL (w:=w) h
   simpa only[execOp,ho,hR.evp hx] using this
  ·cases h
 ·rename_i t x i ho
  split at h
  ·rename_i u v hx hi
   have:=zL (w:=w) h
   simpa only[execOp,ho,hR.evp hx,hR.evp hi] using this
  ·cases h
 ·rename_i t x lo hi mx ho
  split at h
  ·rename_i u hx h1 h2
   have:=zL (w:=w) h
   simp only[Option.map_eq_none_iff] at h1 h2
   simpa only[execOp,ho,hR.evp hx,h1,h2,Option.map_none] using this
  ·rename_i u l hx h1 h2
   have:=zL (w:=w) h
   simp only[Option.map_eq_none_iff,Option.map_eq_some_iff] at h1 h2
   obtain⟨l',h1,h3⟩:=h1
   simpa only[execOp,ho,hR.evp hx,h1,h2,Option.map_none,Option.map_some,hR.evp h3] using this
  ·rename_i u l hx h1 h2
   have:=zL (w:=w) h
   simp only[Option.map_eq_none_iff,Option.map_eq_some_iff] at h1 h2
   obtain⟨l',h2,h3⟩:=h2
   simpa only[execOp,ho,hR.evp hx,h1,h2,Option.map_none,Option.map_some,hR.evp h3] using this
  ·rename_i u l hi hx h1 h2
   have:=zL (w:=w) h
   simp only[Option.map_eq_some_iff] at h1 h2
   obtain⟨l',h1,h3⟩:=h1
   obtain⟨l2,h2,h4⟩:=h2
   simpa only[execOp,ho,hR.evp hx,h1,h2,Option.map_none,Option.map_some,hR.evp h3,hR.evp h4] using this
  ·cases h
 ·rename_i x ts ho
  split at h
  ·rename_i u hx
   have:=zL (w:=w) h
   simpa [execOp,ho,resolve,invoke,builtin,hR.evp hx,Builtin.len_] using this
  ·cases h
 ·rename_i x y ts ho
  split at h
  ·rename_i u v hx hy
   have:=zL (w:=w) h
   simpa [execOp,ho,resolve,invoke,builtin,hR.evp hx,hR.evp hy,Builtin.min_] using this
  ·cases h
 ·rename_i x y ts ho
  split at h
  ·rename_i u v hx hy
   have:=zL (w:=w) h
   simpa [execOp,ho,resolve,invoke,builtin,hR.evp hx,hR.evp hy,Builtin.max_] using this
  ·cases h
 ·cases h
end
end Go.Proofs.YtophoepbedlhjaaGreatDoor
namespace Go.Proofs.YtophoepbedlhjaaGreatDoor
open Go Go.RowKit
set_option maxRecDepth 100000
section
variable {P:Program} {N:Nat} {w0:XEnv} {ρ γ:Nat→Nat} {F:XFr} {H:XHp} {a:Act} {w:World} {o:Oper}
theorem zK {t:TypeId} {d:TypeDesc} (h:P.underlying t=some d):(underlying t).run P w = .ok d w:=by unfold underlying;simp[h]
theorem zN1 {t:TypeId} {n:Nat} (h:(P.info? t).map (·.size)=some n):(sizeOf t).run P w = .ok n w:=by
 unfold sizeOf typeInfo
 cases hi:P.info? t with
 | none=>rw[hi] at h;cases h
 | some i=>rw[hi] at h;simp at h;simp[hi,h]
def xpart (P:Program) (t:TypeId) (l:List XV) (off:Nat):Option XV:=match ldk P t with
 | some none=>l[off]?
 | some (some n)=>some (.a ((l.drop off).take n))
 | none=>none
theorem zy9 {t:TypeId} {l:List XV} {off:Nat} {v:XV} (h:xpart P t l off=some v) (hl:XV.okL (H.has γ) l):(part t (XV.denL ρ γ l).toArray off).run P w = .ok (v.den ρ γ) w∧v.ok (H.has γ):=by
 rw[XV.okL_iff] at hl
 rw[XV.denL_eq]
 unfold xpart at h
 split at h
 ·rename_i hk
  refine⟨?_,hl v (List.mem_of_getElem? h)⟩
  unfold part
  simp[(zU4 (w:=w) hk).1,h]
 ·rename_i n hk
  injection h with h
  subst h
  refine⟨?_, ?_⟩
  ·unfold part
   simp only[Sem.run_bind,(zs2 (w:=w) hk).1,Result.andThen_ok,if_true,(zs2 (w:=w) hk).2,Sem.run_pure,XV.den,XV.denL_eq]
   congr 2
   simp[List.map_take,List.map_drop,List.extract_eq_take_drop]
  ·rw[XV.ok,XV.okL_iff]
   intro x hx
   exact hl x (List.mem_of_mem_drop (List.mem_of_mem_take hx))
 ·cases h
def xarrSz (P:Program) (t:TypeId):Option (Nat × TypeId × Nat):=match P.underlying t with
 | some (.array n e)=>(match (P.info? e).map (·.size) with
  | some s=>some (n,e,s)
  | none=>none)
 | _=>none
theorem zN2 {t e:TypeId} {n s:Nat} (h:xarrSz P t=some (n,e,s)):P.underlying t=some (.array n e)∧(P.info? e).map (·.size)=some s:=by
 unfold xarrSz at h
 split at h
 ·rename_i n' e' hu
  split at h
  ·rename_i s' hs
   simp only[Option.some.injEq,Prod.mk.injEq] at h
   obtain⟨rfl,rfl,rfl⟩:=h
   exact⟨hu,hs⟩
  ·cases h
 ·cases h
theorem zL3 {t e:TypeId} {s:Nat} (h:elemSz P t=some (e,s)):P.underlying t=some (.slice e)∧(P.info? e).map (·.size)=some s:=by
 obtain⟨h1,i,h2,h3⟩:=zw h
 exact⟨h1,by rw[h2];simp[h3]⟩
theorem zB6 (B off n:Nat):(⟨B,off,none⟩:Addr).add n=⟨B,off+n,none⟩:=by
 unfold Addr.add
 split
 ·rename_i h;subst h;rfl
 ·rfl
def xfield (P:Program) (F:XFr) (op:Op):Option XV:=match op with
 | .field t x f=>(match xevn F x,P.underlying t with
  | some (.a l),some (.struct fs)=>(match fs[f]? with
   | some g=>xpart P g.type l g.offset
   | none=>none)
  | _,_=>none)
 | .index t x i=>(match xevn F x,xevp F i,xarrSz P t with
  | some (.a l),some (.int _ (.ofNat k)),some (n,e,s)=>bif Nat.blt k n then xpart P e l (k*s) else none
  | _,_,_=>none)
 | _=>none
theorem zG7 {v:XV} (h:xfield P F o.op=some v) (hR:XR N w0 ρ γ F H a w):(execOp a.eval o).run P w = .ok (.value (v.den ρ γ)) w∧v.ok (H.has γ):=by
 unfold xfield at h
 split at h
 ·rename_i t x f ho
  split at h
  ·rename_i l fs hx hu
   split at h
   ·rename_i g hg
    obtain⟨h1,h2⟩:=hR.evn hx
    obtain⟨h3,h4⟩:=zy9 (P:=P) (w:=w) (ρ:=ρ) h h2
    refine⟨?_,h4⟩
    simp only[execOp,ho,h1,XV.den,Instr.field,Sem.run_bind,zK hu,Result.andThen_ok,hg,asAgg,Sem.run_pure,h3]
   ·cases h
  ·cases h
 ·rename_i t x i ho
  split at h
  ·rename_i l kd k n e s hx hi ha
   obtain⟨hu,hs⟩:=zN2 ha
   cases hb:Nat.blt k n with
   | false=>rw[hb] at h;cases h
   | true=>
    rw[hb] at h
    obtain⟨h1,h2⟩:=hR.evn hx
    obtain⟨h3,h4⟩:=zy9 (P:=P) (w:=w) (ρ:=ρ) h h2
    refine⟨?_,h4⟩
    rw[Nat.blt_eq] at hb
    simp only[execOp,ho,h1,XV.den,hR.evp hi,Instr.index,asIntOf,Sem.run_bind,Sem.run_pure,zK hu,Result.andThen_ok,zN1 hs]
    rw[if_pos ⟨by simp,by simpa using hb⟩]
    simp only[Sem.run_bind,zN1 hs,Result.andThen_ok,Int.ofNat_eq_natCast,Int.toNat_natCast,h3,Sem.run_pure]
  ·cases h
 ·cases h
def xaddr (P:Program) (F:XFr) (op:Op):Option XV:=match op with
 | .fieldAddr t x f=>(match xev F x with
  | some (.p b j)=>(match fieldOff P t f with
   | some off=>some (.p b (j+off))
   | none=>none)
  | _=>none)
 | .indexAddr t x ix=>(match xev F x,xevp F ix with
  | some (.sl b k n _),some (.int _ (.ofNat z))=>(match elemSz P t with
   | some (_,sz)=>bif Nat.blt z n then some (.p b (k+z*sz)) else none
   | none=>none)
  | some (.sg b k n _),some (.int _ (.ofNat z))=>(match elemSz P t with
   | some (_,sz)=>bif Nat.blt z n then some (.p b (k+z*sz)) else none
   | none=>none)
  | some (.p b j),some (.int _ (.ofNat z))=>(match xarrSz P t with
   | some (n,_,sz)=>bif Nat.blt z n then some (.p b (j+z*sz)) else none
   | none=>none)
  | _,_=>none)
 | .nilCheck x=>(match xev F x with
  | some (.p b j)=>some (.p b j)
  | some (.f fn cs)=>some (.f fn cs)
  | _=>none)
 | _=>none
theorem zF6 {v:XV} (h:xaddr P F o.op=some v) (hR:XR N w0 ρ γ F H a w):(execOp a.eval o).run P w = .ok (.value (v.den ρ γ)) w∧v.ok (H.has γ):=by
 unfold xaddr at h
 split at h
 ·rename_i t x f ho
  split at h
  ·rename_i b j hx
   split at h
   ·rename_i off hoff
    injection h with h
    subst h
    obtain⟨h1,h2⟩:=hR.ev hx
    refine⟨?_,h2⟩
    simp only[XV.den] at h1 ⊢
    simp only[execOp,ho,h1,Sem.run_bind,zk2 hoff,Result.andThen_ok,Sem.run_pure]
   ·cases h
  ·cases h
 ·rename_i t x ix ho
  split at h
  ·rename_i b k n c kd z hx hix
   split at h
   ·rename_i e sz he
    cases hb:Nat.blt z n with
    | false=>rw[hb] at h;cases h
    | true=>
     rw[hb] at h
     injection h with h
     subst h
     rw[Nat.blt_eq] at hb
     obtain⟨h1,h2⟩:=hR.ev hx
     refine⟨?_,h2⟩
     simp only[XV.den] at h1 ⊢
     simp only[execOp,ho,h1,hR.evp hix,Int.ofNat_eq_natCast,Sem.run_bind,zR2 he hb,Result.andThen_ok,Sem.run_pure]
   ·cases h
  ·rename_i b k n c kd z hx hix
   split at h
   ·rename_i e sz he
    cases hb:Nat.blt z n with
    | false=>rw[hb] at h;cases h
    | true=>
     rw[hb] at h
     injection h with h
     subst h
     rw[Nat.blt_eq] at hb
     obtain⟨h1,h2⟩:=hR.ev hx
     refine⟨?_,⟨h2.1,Nat.zero_le _⟩⟩
     simp only[XV.den] at h1 ⊢
     simp only[execOp,ho,h1,hR.evp hix,Int.ofNat_eq_natCast,Sem.run_bind,zR2 he hb,Result.andThen_ok,Sem.run_pure]
   ·cases h
  ·rename_i b j kd z hx hix
   split at h
   ·rename_i n e sz ha
    obtain⟨hu,hs⟩:=zN2 ha
    cases hb:Nat.blt z n with
    | false=>rw[hb] at h;cases h
    | true=>
     rw[hb] at h
     injection h with h
     subst h
     rw[Nat.blt_eq] at hb
     obtain⟨h1,h2⟩:=hR.ev hx
     refine⟨?_,h2⟩
     simp only[XV.den] at h1 ⊢
     simp only[execOp,ho,h1,hR.evp hix,Instr.indexAt,asIntOf,Sem.run_bind,Sem.run_pure,zK hu,Result.andThen_ok,Instr.sureAddr]
     rw[if_pos ⟨by simp,by simpa using hb⟩]
     simp only[Sem.run_bind,zN1 hs,Result.andThen_ok,Int.ofNat_eq_natCast,Int.toNat_natCast,Sem.run_pure,zB6]
   ·cases h
  ·cases h
 ·rename_i x ho
  split at h
  ·rename_i b j hx
   injection h with h
   subst h
   obtain⟨h1,h2⟩:=hR.ev hx
   simp only[XV.den] at h1
   exact⟨by simp[execOp,ho,h1,XV.den],h2⟩
  ·rename_i f cs hx
   injection h with h
   subst h
   obtain⟨h1,h2⟩:=hR.ev hx
   simp only[XV.den] at h1
   exact⟨by simp[execOp,ho,h1,XV.den],h2⟩
  ·cases h
 ·cases h
end
end Go.Proofs.YtophoepbedlhjaaGreatDoor
