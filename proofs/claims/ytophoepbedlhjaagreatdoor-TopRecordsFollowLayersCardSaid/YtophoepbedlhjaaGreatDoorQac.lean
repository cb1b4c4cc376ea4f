/- A logic over values: what a call's own blocks hold, and what is only read, by content. Conditions: none. -/
import Derived.Test.YtophoepbedlhjaaGreatDoorQab
import Derived.WalkKit
import Derived.WalkSpells
import Derived.WalkLawsBesides
set_option linter.unusedSimpArgs false
set_option linter.unusedVariables false
namespace Go.Proofs.YtophoepbedlhjaaGreatDoor
open Go Go.RowKit
theorem zx5 {α:Type}:∀(a:Ask α) (w:World),w.drawn≤(w.ask a).2.drawn
 | .done a,w=>Nat.le_refl _
 | .ask what range k,w=>by
  unfold World.ask
  dsimp only
  split
  ·exact zx5 _ _
  ·exact Nat.le_trans (Nat.le_succ _) (zx5 (k _) { w with drawn:=w.drawn+1 })
theorem za5 (w:World) (c:Sys):w.drawn≤(w.sys c).2.drawn:=by
 have h:=zx5 (Kernel.perform c w.os) w
 unfold World.sys
 split
 ·exact Nat.le_refl _
 ·rename_i h1;rw[h1] at h;exact h
theorem zY4 {P:Program} {w w':World} {at_:Addr} {u:TypeId} {a:Addr} {v:Value} {b:Bool} {l:List Addr} (h:w.viewStore P at_ u a v b = .ok (w',l)):w.drawn≤w'.drawn:=by
 unfold World.viewStore at h
 simp only[bind,Except.bind,pure,Except.pure,throw,throwThe,MonadExceptOf.throw] at h
 repeat' (split at h)
 all_goals first
  | (injection h with h;injection h with h h2;rw[←h];exact Nat.le_refl _)
  | cases h
theorem zu3 {P:Program} {w w':World} {a:Addr} {v:Value} {b:Bool} {l:List Addr} (h:w.farStore P a v b = .ok (w',l)):w.drawn≤w'.drawn:=by
 unfold World.farStore at h
 split at h
 ·split at h
  ·rename_i h1;injection h with h;subst h;exact zY4 h1
  ·cases h
 ·cases h
theorem zc3 {α:Type} {P:Program}:∀(s:Sem α) (w:World) {v:α} {w':World},s.run P w = .ok v w'→w.drawn≤w'.drawn:=by
 intro s
 induction s with
 | pure a=>intro w v w' h;simp[Sem.run] at h;rw[h.2];exact Nat.le_refl _
 | load m a k ih=>
  intro w v w' h
  simp only[Sem.run] at h
  split at h
  ·exact ih _ _ h
  ·split at h
   ·exact ih _ _ h
   ·cases h
 | store m a x k ih=>
  intro w v w' h
  cases x <;> simp only[Sem.run] at h
  all_goals first
   | (cases h;done)
   | (split at h
      ·split at h
       ·cases h
       ·exact ih (w.setCell a _) h
      ·split at h
       ·rename_i h1;exact Nat.le_trans (zu3 h1) (ih _ h)
       ·cases h)
 | new o k ih=>intro w v w' h;simp only[Sem.run] at h;exact ih _ { w with heap:=w.heap.push o } h
 | shape r k ih=>intro w v w' h;simp only[Sem.run] at h;exact ih _ _ h
 | freeze a n k ih=>
  intro w v w' h;simp only[Sem.run] at h
  have:=ih _ h
  unfold World.freeze at this
  split at this <;> exact this
 | frozen a k ih=>intro w v w' h;simp only[Sem.run] at h;exact ih _ _ h
 | getObj r k ih=>
  intro w v w' h;simp only[Sem.run] at h
  split at h
  ·cases h
  ·exact ih _ _ h
  ·cases h
 | setObj r o k ih=>
  intro w v w' h;simp only[Sem.run] at h
  split at h
  ·cases h
  ·exact ih { w with heap:=w.heap.setIfInBounds r o } h
  ·cases h
 | choose q k ih=>
  intro w v w' h;simp only[Sem.run] at h
  split at h
  ·exact ih _ _ h
  ·exact Nat.le_trans (Nat.le_succ _) (ih _ { w with drawn:=w.drawn+1 } h)
 | sys c k ih=>intro w v w' h;simp only[Sem.run] at h;exact Nat.le_trans (za5 _ _) (ih _ _ h)
 | program k ih=>intro w v w' h;simp only[Sem.run] at h;exact ih _ _ h
 | mark m k ih=>intro w v w' h;simp only[Sem.run] at h;exact ih _ h
 | halt h=>intro w v w' h;simp[Sem.run] at h
structure Stp (w w':World) (S:Nat→Prop):Prop where
 os:w'.os=w.os
 tape:w'.tape=w.tape
 output:w'.output=w.output
 size:w.heap.size≤w'.heap.size
 block:∀b,b < w.heap.size→¬S b→w'.heap[b]?=w.heap[b]?
 drawn:w.drawn≤w'.drawn
theorem Stp.refl (w:World) (S:Nat→Prop):Stp w w S:=⟨rfl,rfl,rfl,Nat.le_refl _,fun _ _ _=>rfl,Nat.le_refl _⟩
theorem Stp.trans {a b c:World} {S T:Nat→Prop} (h:Stp a b S) (k:Stp b c T) (hT:∀x,x < a.heap.size→T x→S x):Stp a c S:=
 ⟨k.os.trans h.os,k.tape.trans h.tape,k.output.trans h.output,Nat.le_trans h.size k.size,fun i hi hn=>(k.block i (Nat.lt_of_lt_of_le hi h.size) (fun ht=>hn (hT i hi ht))).trans (h.block i hi hn),Nat.le_trans h.drawn k.drawn⟩
theorem Stp.alloc {a w:World} {S:Nat→Prop} (h:Stp a w S) (o:Obj):Stp a (w.alloc o) S:=⟨h.os,h.tape,h.output,Nat.le_trans h.size (by simp),fun i hi hn=>(Below.heap_alloc w o i (Nat.lt_of_lt_of_le hi h.size)).trans (h.block i hi hn),h.drawn⟩
theorem Stp.drew {a w:World} {S:Nat→Prop} (h:Stp a w S):Stp a w.drew S:=⟨h.os,h.tape,h.output,h.size,h.block,Nat.le_succ_of_le h.drawn⟩
theorem Stp.below {w w':World} (h:Stp w w' fun _=>False):Below w.heap.size w w':=⟨h.os,h.tape,h.output,h.size,fun b hb=>h.block b hb (fun h=>h)⟩
def fnV:Fn→Array Value→Value
 | .via _ _ f _,a=>.func (.func f) a #[]
 | fn,a=>.func fn #[] a
inductive CV where
 | s (v:Value)
 | r (v:Value) (rows:List (List CV))
 /-- A pointer to a struct that is only read. -/
 | p (v:Value) (row:List CV)
 /-- A function whose captured values are only read. -/
 | f (v:Value) (fn:Fn) (caps:List CV)
def CV.den:CV→Value
 | .s v=>v
 | .r v _=>v
 | .p v _=>v
 | .f v _ _=>v
inductive Good (w:World) (S:Nat→Prop):CV→Prop where
 | s (v:Value):Good w S (.s v)
 | nil (A:Option Addr) (c:Nat):Good w S (.r (.slice A 0 c) [])
 | r (rows:List (List CV)) (b off sz n c:Nat) (hn:rows.length=n) (hc:n≤c) (hS:S b) (hr:∀row∈rows,row.length=sz)
     (hcell:∀(k j:Nat) (row:List CV) (u:CV),rows[k]?=some row→row[j]?=some u→w.cell? ⟨b,off+k*sz+j,none⟩=some u.den)
     (hg:∀row∈rows,∀u∈row,Good w S u):Good w S (.r (.slice (some ⟨b,off,none⟩) n c) rows)
 | p (row:List CV) (b off:Nat) (hS:S b) (hcell:∀(j:Nat) (u:CV),row[j]?=some u→w.cell? ⟨b,off+j,none⟩=some u.den) (hg:∀u∈row,Good w S u):Good w S (.p (.pointer (some ⟨b,off,none⟩)) row)
 | f (fn:Fn) (caps:List CV) (hg:∀u∈caps,Good w S u):Good w S (.f (fnV fn (caps.map CV.den).toArray) fn caps)
theorem Good.mono {w w':World} {S S':Nat→Prop} {x:CV} (h:Good w S x) (hS:∀b,S b→S' b∧w'.heap[b]?=w.heap[b]?):Good w' S' x:=by
 induction h with
 | s v=>exact .s v
 | nil=>exact .nil _ _
 | r rows b off sz n c hn hc hSb hr hcell hg ih=>
  refine .r rows b off sz n c hn hc (hS b hSb).1 hr (fun k j row u h1 h2=>?_) ih
  rw[World.cell?_of_block (w:=w) (hS b hSb).2]
  exact hcell k j row u h1 h2
 | p row b off hSb hcell hg ih=>
  refine .p row b off (hS b hSb).1 (fun j u h1=>?_) ih
  rw[World.cell?_of_block (w:=w) (hS b hSb).2]
  exact hcell j u h1
 | f fn caps hg ih=>exact .f fn caps ih
inductive AV where
 | c (x:CV)
 | p (b k j:Nat)
 | o (b k n c:Nat)
 | q (v:Value) (k sz:Nat) (row:List CV) (j:Nat)
 | a (l:List AV)
 | t (l:List AV)
 | f (fn:Fn) (caps:List AV)
 | mp (b:Nat)
inductive PE where
 | bx (v:Value) (l:List CV)
 | ar (v:Value) (n c:Nat) (e:TypeId) (sz cap:Nat) (rows:List (List CV))
 | out
def PE.blk:PE→Option Nat
 | .bx (.pointer (some ad)) _=>some ad.block
 | .ar (.slice (some ad) _ _) ..=>some ad.block
 | _=>none
inductive OB where
 | box (l:List AV)
 | arr (e:TypeId) (sz cap:Nat) (rows:List (List CV))
 | dead
 /-- No block: a value that is said by its cells, too. -/
 | eqv (x:AV) (v:Value)
 /-- A map: its entries (when born, key, value), its clock. -/
 | map (es:List (Nat × Value × CV)) (ck:Nat)
 /-- A walk through a map: through which, from which clock on, what was seen. -/
 | itr (b since:Nat) (seen:List Nat) (last:Nat)
 /-- A walk through a string. -/
 | sit (s:ByteArray) (pos:Nat)
 /-- The bytes of a string, as a slice of the call's own: its value, its bytes. -/
 | bts (v:Value) (l:List UInt8)
 /-- A variable whose type is known. -/
 | boxt (t:TypeId) (l:List AV)
 /-- No block: blocks of the call's own, in any number, by their raw values. -/
 | pool (l:List PE)
def OB.shp:OB→Nat
 | .box _=>1
 | .map _ _=>2
 | .bts _ _=>3
 | .boxt _ _=>4
 | .pool _=>5
 | _=>0
def OB.hasP (o:OB) (k B:Nat):Prop:=∃l e,o = .pool l∧l[k]?=some e∧e.blk=some B
def inP (H:List OB) (i k B:Nat):Prop:=∃o,H[i]?=some o∧o.hasP k B
def OB.sz:OB→Nat
 | .arr _ sz _ _=>sz
 | _=>0
def OB.cap:OB→Nat
 | .arr _ _ c _=>c
 | _=>0
def szAt (H:List OB) (b:Nat):Nat:=match H[b]? with|some o=>o.sz|none=>0
def capAt (H:List OB) (b:Nat):Nat:=match H[b]? with|some o=>o.cap|none=>0
def atB (ρ:List (Option Nat)) (b:Nat):Option Nat:=match ρ[b]? with|some m=>m|none=>none
mutual
def AV.den (ρ:List (Option Nat)) (H:List OB):AV→Value
 | .c x=>x.den
 | .p b k j=>.pointer ((atB ρ b).map fun B=>⟨B,k*szAt H b+j,none⟩)
 | .o b k n m=>.slice ((atB ρ b).map fun B=>⟨B,k*szAt H b,none⟩) n m
 | .q v k sz _ j=>.pointer (match v with | .slice (some ad) _ _=>some ⟨ad.block,ad.off+k*sz+j,none⟩|_=>none)
 | .a l=>.agg (AV.denL ρ H l).toArray
 | .t l=>.tuple (AV.denL ρ H l).toArray
 | .f fn caps=>fnV fn (AV.denL ρ H caps).toArray
 | .mp b=>.map (atB ρ b)
def AV.denL (ρ:List (Option Nat)) (H:List OB):List AV→List Value
 | []=>[]
 | x :: l=>x.den ρ H :: AV.denL ρ H l
end
theorem AV.denL_eq (ρ:List (Option Nat)) (H:List OB):∀l,AV.denL ρ H l=l.map (AV.den ρ H)
 | []=>rfl
 | x :: l=>by rw[AV.denL,AV.denL_eq ρ H l];rfl
inductive WF (w:World) (S:Nat→Prop) (ρ:List (Option Nat)) (H:List OB):AV→Prop where
 | c {x:CV} (h:Good w S x):WF w S ρ H (.c x)
 | p {b k j:Nat} (h0:b < H.length) (h:(atB ρ b).isSome=true):WF w S ρ H (.p b k j)
 | o {b k n c:Nat} (h0:b < H.length) (h1:n≤c) (h2:k+c≤capAt H b) (h3:atB ρ b=none→n=0∧c=0):WF w S ρ H (.o b k n c)
 | q {B off n c k sz j:Nat} {row:List CV} (h1:S B) (h2:∀(i:Nat) (u:CV),row[i]?=some u→w.cell? ⟨B,off+k*sz+i,none⟩=some u.den) (h3:∀u∈row,Good w S u):WF w S ρ H (.q (.slice (some ⟨B,off,none⟩) n c) k sz row j)
 | a {l:List AV} (h:∀x∈l,WF w S ρ H x):WF w S ρ H (.a l)
 | t {l:List AV} (h:∀x∈l,WF w S ρ H x):WF w S ρ H (.t l)
 | f {fn:Fn} {caps:List AV} (h:∀x∈caps,WF w S ρ H x):WF w S ρ H (.f fn caps)
 | mp {b:Nat} (h0:b < H.length) (h:(atB ρ b).isSome=true):WF w S ρ H (.mp b)
def PEok (w:World) (S:Nat→Prop):PE→Prop
 | .bx v l=>∃B t,v = .pointer (some ⟨B,0,none⟩)∧w.heap[B]?=some (.cells (l.map CV.den).toArray t (0,0))∧∀u∈l,Good w S u∧u.den.oneCell'=true
 | .ar v n c e sz cap rows=>(v = .slice none 0 0∧n=0∧c=0∧cap=0∧rows = [])∨∃B cs,v = .slice (some ⟨B,0,none⟩) n c∧n≤c∧c≤cap∧w.heap[B]?=some (.cells cs e (0,0))∧cs.size=cap*sz∧cap≤maxLen∧rows.length≤cap ∧
     (∀row∈rows,row.length=sz∧∀u∈row,Good w S u∧u.den.oneCell'=true)∧∀(k j:Nat) (row:List CV) (u:CV),rows[k]?=some row→row[j]?=some u→cs[k*sz+j]?=some u.den
 | .out=>True
theorem PEok.mono {w w':World} {S S':Nat→Prop} {e:PE} (h:PEok w S e) (hS:∀u,Good w S u→Good w' S' u) (hB:∀B,e.blk=some B→w'.heap[B]?=w.heap[B]?):PEok w' S' e:=by
 cases e with
 | bx v l=>
  obtain⟨B,t,rfl,h1,h2⟩:=h
  exact⟨B,t,rfl,by rw[hB B rfl];exact h1,fun u hu=>⟨hS u (h2 u hu).1,(h2 u hu).2⟩⟩
 | ar v n c e sz cap rows=>
  rcases h with h|⟨B,cs,rfl,h1,h2,h3,h4,h5,h6,h7,h8⟩
  ·exact .inl h
  ·exact .inr ⟨B,cs,rfl,h1,h2,by rw[hB B rfl];exact h3,h4,h5,h6,fun row hr=>⟨(h7 row hr).1,fun u hu=>⟨hS u ((h7 row hr).2 u hu).1,((h7 row hr).2 u hu).2⟩⟩,h8⟩
 | out=>trivial
def OwnB (w:World) (S:Nat→Prop) (ρ:List (Option Nat)) (H:List OB):OB→Option Nat→Prop
 | .box l,m=>∃B t,m=some B∧w.heap[B]?=some (.cells (l.map (AV.den ρ H)).toArray t (0,0))∧∀x∈l,WF w S ρ H x∧(x.den ρ H).oneCell'=true
 | .arr e sz cap rows,m=>(m=none∧cap=0∧rows = [])∨∃B cs,m=some B∧w.heap[B]?=some (.cells cs e (0,0))∧cs.size=cap*sz∧cap≤maxLen∧rows.length≤cap ∧
     (∀row∈rows,row.length=sz∧∀u∈row,Good w S u∧u.den.oneCell'=true)∧∀(k j:Nat) (row:List CV) (u:CV),rows[k]?=some row→row[j]?=some u→cs[k*sz+j]?=some u.den
 | .dead,_=>True
 | .eqv x v,_=>x.den ρ H=v∧WF w S ρ H x
 | .map es ck,m=>∃B ms,m=some B∧w.heap[B]?=some (.map ms ck)∧ms.toList=es.map (fun e=>(⟨e.2.1,e.2.2.den,e.1⟩:MapEntry))∧∀e∈es,Good w S e.2.2
 | .itr b since seen last,m=>∃B,m=some B∧w.heap[B]?=some (.mapIter (atB ρ b) since seen.toArray last)∧b < H.length∧(atB ρ b).isSome=true
 | .sit s pos,m=>∃B,m=some B∧w.heap[B]?=some (.stringIter s pos)
 | .boxt t l,m=>∃B,m=some B∧w.heap[B]?=some (.cells (l.map (AV.den ρ H)).toArray t (0,0))∧∀x∈l,WF w S ρ H x∧(x.den ρ H).oneCell'=true
 | .pool l,m=>m=none∧∀e∈l,PEok w S e
 | .bts v l,m=>∃B cs e n,m=some B∧v = .slice (some ⟨B,0,none⟩) l.length n∧w.heap[B]?=some (.cells cs e (cs.size,cs.size+1))∧∀(k:Nat) (b:UInt8),l[k]?=some b→cs[k]?=some (.int .u8 b.toNat)
structure PL (w:World) (S:Nat→Prop) (ρ:List (Option Nat)) (H:List OB):Prop where
 pd:∀i k i' k' B,inP H i k B→inP H i' k' B→i=i'∧k=k'
 ps:∀i k B,inP H i k B→¬S B∧(∀j,atB ρ j≠some B)∧B < w.heap.size
theorem PL.mono {w w':World} {S S':Nat→Prop} {ρ ρ':List (Option Nat)} {H H':List OB} (h:PL w S ρ H) (hP:∀i k B,inP H' i k B→inP H i k B) (hS:∀B,S' B→S B∨w.heap.size≤B∨∃j,atB ρ j=some B) (hρ:∀j B,atB ρ' j=some B→(∃j',atB ρ j'=some B)∨w.heap.size≤B) (hs:w.heap.size≤w'.heap.size):PL w' S' ρ' H':=
 ⟨fun i k i' k' B h1 h2=>h.pd i k i' k' B (hP _ _ _ h1) (hP _ _ _ h2),fun i k B h1=>by
  obtain⟨g1,g2,g3⟩:=h.ps i k B (hP _ _ _ h1)
  refine⟨fun hb=>?_,fun j hj=>?_,Nat.lt_of_lt_of_le g3 hs⟩
  ·rcases hS B hb with h'|h'|⟨j,h'⟩
   ·exact g1 h'
   ·omega
   ·exact g2 j h'
  ·rcases hρ j B hj with⟨j',h'⟩|h'
   ·exact g2 j' h'
   ·omega⟩
theorem PL.same {w w':World} {S:Nat→Prop} {ρ:List (Option Nat)} {H H':List OB} (h:PL w S ρ H) (hP:∀i k B,inP H' i k B→inP H i k B) (hs:w.heap.size≤w'.heap.size):PL w' S ρ H':=
 h.mono hP (fun _ h=>.inl h) (fun j _ h=>.inl ⟨j,h⟩) hs
theorem PL.none {w:World} {S:Nat→Prop} {ρ:List (Option Nat)} {H:List OB} (h:∀i k B,¬inP H i k B):PL w S ρ H:=⟨fun i k _ _ B h1=>absurd h1 (h i k B),fun i k B h1=>absurd h1 (h i k B)⟩
theorem zo4 {i k B:Nat}:¬inP [] i k B:=fun⟨o,h,_⟩=>by simp at h
theorem zp1 {o:OB} {k B:Nat} (h:o.hasP k B):∃l,o = .pool l:=let ⟨l,_,h,_⟩:=h;⟨l,h⟩
structure RH (w:World) (S:Nat→Prop) (ρ:List (Option Nat)) (H:List OB):Prop where
 len:ρ.length=H.length
 nd:∀i i' B,atB ρ i=some B→atB ρ i'=some B→i=i'
 ap:∀i B,atB ρ i=some B→¬S B
 lt:∀i B,atB ρ i=some B→B < w.heap.size
 sS:∀b,S b→b < w.heap.size
 blk:∀i o,H[i]?=some o→OwnB w S ρ H o (atB ρ i)
 pl:PL w S ρ H
abbrev Fm:=List (Nat × AV)
structure Env where
 w0:World
 S0:Nat→Prop
 r0:List (Option Nat)
 H0:List OB
 pin:Bool
 /-- Whether it runs in a round; the marks for deferred calls. -/
 rd:Option Nat:=none
 dfs:List Deferred:=[]
def Env.fc (E:Env):Fence:=match E.rd with
 | none=>Fence.wide
 | some l=>Fence.wide.inRound l
theorem Env.ok (E:Env):FcOk E.fc:=by
 unfold Env.fc
 cases E.rd with
 | none=>exact .inl rfl
 | some l=>exact .inr ⟨l,rfl⟩
def Env.W (E:Env) (B:Nat):Prop:=(∃i,atB E.r0 i=some B)∨∃i k,inP E.H0 i k B
structure R (N:Nat) (E:Env) (S:Nat→Prop) (ρ:List (Option Nat)) (F:Fm) (H:List OB) (a:Act) (w:World):Prop where
 df:a.defers=E.dfs
 sz:N≤a.tmps.size
 fr:∀i x,F.lookup i=some x→a.tmps[i]?=some (x.den ρ H)∧WF w S ρ H x
 hp:RH w S ρ H
 st:Stp E.w0 w E.W
 nw:∀i B,atB ρ i=some B→(E.w0.heap.size≤B∨∃i k,inP E.H0 i k B)∨(i < E.H0.length∧atB E.r0 i=some B)
 nS:∀b,S b→E.S0 b∨(E.w0.heap.size≤b∨∃i k,inP E.H0 i k b)
 pw:∀i k B,inP H i k B→E.w0.heap.size≤B∨∃i k,inP E.H0 i k B
 ln:∀i,i < E.H0.length→i < H.length∧∀o,E.H0[i]?=some o→o.shp≠0→atB ρ i=atB E.r0 i∧∃o',H[i]?=some o'∧o'.shp=o.shp
 pn:E.pin=true→∀i,i < E.H0.length→atB ρ i=atB E.r0 i∧szAt H i=szAt E.H0 i∧capAt H i=capAt E.H0 i
def cvOf:Value→CV
 | .slice none 0 0=>.r (.slice none 0 0) []
 | v=>.s v
theorem zY1 (v:Value):(cvOf v).den=v:=by unfold cvOf;split <;> rfl
theorem zO2 (w:World) (S:Nat→Prop) (v:Value):Good w S (cvOf v):=by
 unfold cvOf;split
 ·exact .nil _ _
 ·exact .s _
def evC:Value→Option AV
 | .slice none 0 0=>some (.c (.r (.slice none 0 0) []))
 | v=>some (.c (.s v))
theorem evC_eq (v:Value):evC v=some (.c (cvOf v)):=by unfold evC cvOf;split <;> rfl
def ev (F:Fm):Operand→Option AV
 | .tmp t=>F.lookup t
 | .const v=>evC v
 | .func f=>some (.f (.func f) [])
 | .global _=>none
section
variable {P:Program} {N:Nat} {E:Env} {S:Nat→Prop} {ρ:List (Option Nat)} {F:Fm} {H:List OB} {a:Act} {w:World}
theorem R.ev {x:Operand} {v:AV} (h:R N E S ρ F H a w) (hx:ev F x=some v):a.eval x=v.den ρ H∧WF w S ρ H v:=by
 cases x with
 | tmp t=>
  obtain⟨h1,h2⟩:=h.fr t v hx
  exact⟨by rw[Act.eval,Array.getD_eq_getD_getElem?,h1];rfl,h2⟩
 | const c=>
  simp only[Go.Proofs.YtophoepbedlhjaaGreatDoor.ev,evC_eq,Option.some.injEq] at hx
  subst hx
  exact⟨(zY1 c).symm,.c (zO2 _ _ _)⟩
 | func f=>
  simp only[Go.Proofs.YtophoepbedlhjaaGreatDoor.ev,Option.some.injEq] at hx
  subst hx
  exact⟨rfl,.f (fun _ h=>by cases h)⟩
 | global g=>cases hx
theorem R.put {d:Nat} {x:AV} (h:R N E S ρ F H a w) (hd:d < N) (hx:WF w S ρ H x):R N E S ρ ((d,x) :: F) H (a.put (some d) (x.den ρ H)) w:=by
 refine⟨h.df,by simpa [Act.put] using h.sz,fun i y hy=>?_,h.hp,h.st,h.nw,h.nS,h.pw,h.ln,h.pn⟩
 by_cases hi:i=d
 ·subst hi
  simp only[List.lookup_cons,beq_self_eq_true,Option.some.injEq] at hy
  subst hy
  have:=h.sz
  exact⟨by simp[Act.put,Array.getElem?_setIfInBounds];omega,hx⟩
 ·rw[List.lookup_cons,show (i == d)=false from by simpa using hi] at hy
  obtain⟨h1,h2⟩:=h.fr i y hy
  exact⟨by simp only[Act.put];rw[Array.getElem?_setIfInBounds_ne (Ne.symm hi)];exact h1,h2⟩
def drop (F:Fm) (d:Nat):Fm:=F.filter fun e=>e.1 != d
def lift (N:Nat) (E:Env) (Q:Exit→Fm→List OB→Prop):Exit→Act→World→Prop:=fun x a w=>∃S ρ F H,Q x F H∧R N E S ρ F H a w
def AW (P:Program) (N:Nat) (E:Env) (c:Code) (F:Fm) (H:List OB) (Q:Exit→Fm→List OB→Prop):Prop:=∀S ρ a w,R N E S ρ F H a w→∀n,c.wpIn E.fc n P (lift N E Q) a w
def AL (P:Program) (N:Nat) (E:Env) (ops:Array Oper) (l:List Oper) (F:Fm) (H:List OB) (Q:Exit→Fm→List OB→Prop):Prop:=∀S ρ a w,R N E S ρ F H a w→∀n,wpListIn E.fc n P ops (lift N E Q) l a w
def Rd (P:Program) (N:Nat) (E:Env) (o:Oper) (F:Fm) (H:List OB) (x:AV):Prop:=∀S ρ a w,R N E S ρ F H a w→(execOp a.eval o).run P w = .ok (.value (x.den ρ H)) w∧WF w S ρ H x
def Ef (P:Program) (N:Nat) (E:Env) (o:Oper) (F:Fm) (H:List OB) (K:Fm→List OB→Prop):Prop:=∀S ρ a w,R N E S ρ F H a w→effO P o a w fun a' w'=>∃S' ρ' F' H',K F' H'∧R N E S' ρ' F' H' a' w'
def ASeq (K:Fm→List OB→Prop) (Q:Exit→Fm→List OB→Prop):Exit→Fm→List OB→Prop
 | .normal,F,H=>K F H
 | e,F,H=>Q e F H
def ABlk (id:Nat) (Q:Exit→Fm→List OB→Prop):Exit→Fm→List OB→Prop
 | .exit id',F,H=>if id'=id then Q .normal F H else Q (.exit id') F H
 | e,F,H=>Q e F H
variable {ops:Array Oper} {Q:Exit→Fm→List OB→Prop} {rest l:List Oper} {o:Oper}
theorem al_nil (h:Q .normal F H):AL P N E ops [] F H Q:=fun S ρ a w hr _=>wpListIn_nil ⟨S,ρ,F,H,h,hr⟩
theorem zK11 {d:Nat} {x:AV} (hg:o.guard=none) (hd:o.dst=some d) (hN:d < N) (hr:Rd P N E o F H x) (h:AL P N E ops rest ((d,x) :: F) H Q):AL P N E ops (o :: rest) F H Q:=fun S ρ a w hR n=>
 wpListIn_plain hg fun K hK=>by
  obtain⟨h1,h2⟩:=hr S ρ a w hR
  refine zX2 E.ok ?_
  unfold effO
  rw[h1]
  refine hK _ _ ?_
  rw[hd]
  exact h S ρ _ w (hR.put hN h2) n
theorem zf {K:Fm→List OB→Prop} (hg:o.guard=none) (hr:Ef P N E o F H K) (h:∀F' H',K F' H'→AL P N E ops rest F' H' Q):AL P N E ops (o :: rest) F H Q:=fun S ρ a w hR n=>
 wpListIn_plain hg fun K' hK=>by
  refine zX2 E.ok (zT (fun a' w' hh=>?_) (hr S ρ a w hR))
  obtain⟨S',ρ',F',H',hk,hR'⟩:=hh
  exact hK _ _ (h F' H' hk S' ρ' a' w' hR' n)
theorem zr1 {i t:Nat} {oi:Oper} {b:Bool} (hR:R N E S ρ F H a w) (hi:ops[i]?=some oi) (ht:oi.dst=some t) (hb:F.lookup t=some (.c (.s (.bool b)))):yielded ops a.tmps i=some b:=by
 have:=(hR.fr t _ hb).1
 unfold yielded
 simp only[hi,Option.bind_some,ht,this]
 rfl
theorem al_gon {i t:Nat} {oi:Oper} {b:Bool} (hg:o.guard=some (i,b)) (hi:ops[i]?=some oi) (ht:oi.dst=some t) (hb:F.lookup t=some (.c (.s (.bool b)))) (h:AL P N E ops ({ o with guard:=none } :: rest) F H Q) :
    AL P N E ops (o :: rest) F H Q:=fun S ρ a w hR n=>by
 have h1:=h S ρ a w hR n
 unfold wpListIn at h1 ⊢
 rw[if_pos (by simp[Region.wanted])] at h1
 rw[if_pos (by simp[Region.wanted,hg,zr1 hR hi ht hb])]
 exact h1
theorem ze {id:Nat} (h:AL P N E l.toArray l F H Q):AW P N E (.region id l.toArray false) F H Q:=fun S ρ a w hR n=>wpIn_region_lit (h S ρ a w hR n)
theorem aw_seq {x y:Code} (h:AW P N E x F H (ASeq (fun F H=>AW P N E y F H Q) Q)):AW P N E (.seq x y) F H Q:=fun S ρ a w hR n=>
 wpIn_seq (wpIn_mono (h S ρ a w hR n) fun e a' w' hh=>by
  obtain⟨S',ρ',F',H',hq,hR'⟩:=hh
  cases e
  case normal=>exact hq S' ρ' a' w' hR' n
  all_goals exact⟨S',ρ',F',H',hq,hR'⟩)
theorem aseq_n {K:Fm→List OB→Prop} (h:K F H):ASeq K Q .normal F H:=h
theorem aseq_r {K:Fm→List OB→Prop} (h:Q .ret F H):ASeq K Q .ret F H:=h
theorem aseq_e {K:Fm→List OB→Prop} {id:Nat} (h:Q (.exit id) F H):ASeq K Q (.exit id) F H:=h
theorem ablk_n {id:Nat} (h:Q .normal F H):ABlk id Q .normal F H:=h
theorem ablk_r {id:Nat} (h:Q .ret F H):ABlk id Q .ret F H:=h
theorem ablk_e {id:Nat} (h:Q .normal F H):ABlk id Q (.exit id) F H:=by simpa [ABlk] using h
theorem ablk_o {id id':Nat} (hne:(id' == id)=false) (h:Q (.exit id') F H):ABlk id Q (.exit id') F H:=by
 have:¬id'=id:=by simpa using hne
 simpa [ABlk,this] using h
theorem aw_skip (h:Q .normal F H):AW P N E .skip F H Q:=fun S ρ a w hR _=>wpIn_skip ⟨S,ρ,F,H,h,hR⟩
theorem aw_ret (h:Q .ret F H):AW P N E .ret F H Q:=fun S ρ a w hR _=>wpIn_ret ⟨S,ρ,F,H,h,hR⟩
theorem aw_exit {id:Nat} (h:Q (.exit id) F H):AW P N E (.exit id) F H Q:=fun S ρ a w hR _=>wpIn_exit ⟨S,ρ,F,H,h,hR⟩
theorem aw_block {id:Nat} {c:Code} (h:AW P N E c F H (ABlk id Q)):AW P N E (.block id c) F H Q:=fun S ρ a w hR n=>
 wpIn_block (wpIn_mono (h S ρ a w hR n) fun e a' w' hh=>by
  obtain⟨S',ρ',F',H',hq,hR'⟩:=hh
  cases e
  case exit id'=>
   simp only[Exit.inBlock,ABlk] at hq ⊢
   split
   ·rename_i he;rw[if_pos he] at hq;exact⟨S',ρ',F',H',hq,hR'⟩
   ·rename_i he;rw[if_neg he] at hq;exact⟨S',ρ',F',H',hq,hR'⟩
  all_goals exact⟨S',ρ',F',H',hq,hR'⟩)
theorem zh {c:Operand} {x y:Code} {b:Bool} (hc:ev F c=some (.c (.s (.bool b)))) (ht:b=true→AW P N E x F H Q) (hf:b=false→AW P N E y F H Q):AW P N E (.cond c x y) F H Q:=fun S ρ a w hR n=>
 wpIn_cond_split (hR.ev hc).1 (fun h=>ht h S ρ a w hR n) (fun h=>hf h S ρ a w hR n)
theorem zd {c:Operand} {x y:Code} (hc:ev F c=some (.c (.s (.bool true)))) (ht:AW P N E x F H Q):AW P N E (.cond c x y) F H Q:=zh hc (fun _=>ht) (fun h=>by cases h)
theorem za {c:Operand} {x y:Code} (hc:ev F c=some (.c (.s (.bool false)))) (hf:AW P N E y F H Q):AW P N E (.cond c x y) F H Q:=zh hc (fun h=>by cases h) (fun _=>hf)
theorem aw_mono {c:Code} {Q':Exit→Fm→List OB→Prop} (h:AW P N E c F H Q) (hq:∀e F H,Q e F H→Q' e F H):AW P N E c F H Q':=fun S ρ a w hR n=>
 wpIn_mono (h S ρ a w hR n) fun e a' w' ⟨S',ρ',F',H',hh,hR'⟩=>⟨S',ρ',F',H',hq _ _ _ hh,hR'⟩
theorem least_of (p:Nat→Prop):∀n,p n→∃m,p m∧∀k,p k→m≤k:=by
 intro n
 induction n using Nat.strongRecOn with
 | _ n ih=>
  intro hn
  by_cases h:∃k,k < n∧p k
  ·obtain⟨k,hk,hp⟩:=h;exact ih k hk hp
  ·refine⟨n,hn,fun k hk=>?_⟩
   rcases Nat.lt_or_ge k n with h'|h'
   ·exact absurd ⟨k,h',hk⟩ h
   ·exact h'
theorem zk4 {p:Nat→Prop} (h:∃n,p n):∃m,p m∧∀k,p k→m≤k:=by obtain⟨n,hn⟩:=h;exact least_of p n hn
end
end Go.Proofs.YtophoepbedlhjaaGreatDoor
