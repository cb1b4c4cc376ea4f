/- A logic over values: what a call's own blocks hold, and what is only read, by content. Conditions: none. -/
import Derived.Below
import Derived.Laws.OwnMore
import Derived.Laws.Rows
import Derived.Deep.AppendLies
import Derived.Deep.Draws
import Derived.Maps.AppendAt
import Derived.OwnWalk
import Derived.Carry
import Derived.Test.YtophoepbedlhjaaGreatDoorQaa
import Derived.WalkKit
import Derived.WalkSpells
import Derived.WalkLawsBesides
set_option linter.unusedSimpArgs false
set_option linter.unusedVariables false
namespace Go.Proofs.YtophoepbedlhjaaGreatDoor
section
open Go Go.RowKit
theorem hid {p:Prop} (h:p):Hid p:=h
def Blk (w:World) (g:Nat) (t:TypeId) (cs:Array Value):Prop:=w.heap[g]?=some (.cells cs t (0,0))
section
variable {w w':World} {g:Nat} {t:TypeId} {cs:Array Value}
theorem Blk.lt (h:Blk w g t cs):g < w.heap.size:=by
 rcases Nat.lt_or_ge g w.heap.size with hlt|hge
 ·exact hlt
 ·unfold Blk at h;rw[Array.getElem?_eq_none hge] at h;cases h
theorem Blk.cell (h:Blk w g t cs) (i:Nat):w.cell? ⟨g,i,none⟩=cs[i]?:=cell_of_row w g i cs t (0,0) h
theorem Blk.cells (h:Blk w g t cs):∀i,w.cell? ⟨g,i,none⟩=cs[i]?:=fun i=>h.cell i
theorem Blk.new (w:World) (t:TypeId) (cs:Array Value):Blk (w.alloc (.cells cs t)) w.heap.size t cs:=heap_alloc_new w _
theorem Blk.newAt {H:Nat} (w:World) (t:TypeId) (cs:Array Value) (hH:w.heap.size=H):Blk (w.alloc (.cells cs t)) H t cs:=by subst hH;exact heap_alloc_new w _
theorem Blk.drew (h:Blk w g t cs):Blk w.drew g t cs:=h
theorem Blk.drewN (h:Blk w g t cs) (n:Nat):Blk (w.drewN n) g t cs:=h
theorem Blk.alloc (h:Blk w g t cs) (o:Obj):Blk (w.alloc o) g t cs:=(Below.heap_alloc w o g h.lt).trans h
theorem Blk.below {B:Nat} (h:Blk w g t cs) (hb:Below B w w') (hg:g < B):Blk w' g t cs:=(hb.block g hg).trans h
theorem Blk.grow (h:Blk w g t cs) (hb:Below w.heap.size w w'):Blk w' g t cs:=h.below hb h.lt
theorem Blk.grown {row:Option Nat} (h:Blk w g t cs) (hb:w.grownBy w' row) (hg:some g≠row):Blk w' g t cs:=(hb.block g h.lt hg).trans h
end
def Sl (w:World) (lo hi:Nat) (sz:Nat) (A:Option Addr) (rows:List (List Value)):Prop:=
 rows≠[]→∃b off,A=some ⟨b,off,none⟩∧lo≤b∧b < hi∧b < w.heap.size∧∀k r,rows[k]?=some r→∀j u,r[j]?=some u→w.cell? ⟨b,off+k*sz+j,none⟩=some u
section
variable {w w':World} {lo hi lo' hi' sz:Nat} {A:Option Addr} {rows:List (List Value)}
theorem Sl.nil:Sl w lo hi sz A []:=fun h=>absurd rfl h
theorem Sl.mono (h:Sl w lo hi sz A rows) (h1:lo'≤lo) (h2:hi≤hi'):Sl w lo' hi' sz A rows:=fun hn=>by
 obtain⟨b,off,e,a1,a2,a3,c⟩:=h hn
 exact⟨b,off,e,by omega,by omega,a3,c⟩
theorem Sl.keep (h:Sl w lo hi sz A rows) (hs:w.heap.size≤w'.heap.size) (hk:∀b,lo≤b→b < hi→b < w.heap.size→w'.heap[b]?=w.heap[b]?):Sl w' lo hi sz A rows:=fun hn=>by
 obtain⟨b,off,e,a1,a2,a3,c⟩:=h hn
 exact⟨b,off,e,a1,a2,by omega,fun k r hr j u hu=>(World.cell?_of_block (hk b a1 a2 a3)).trans (c k r hr j u hu)⟩
theorem Sl.below {B:Nat} (h:Sl w lo hi sz A rows) (hb:Below B w w') (hB:hi≤B):Sl w' lo hi sz A rows:=h.keep hb.size fun b _ h2 _=>hb.block b (by omega)
theorem Sl.grow (h:Sl w lo hi sz A rows) (hb:Below w.heap.size w w'):Sl w' lo hi sz A rows:=h.keep hb.size fun b _ _ h3=>hb.block b h3
theorem Sl.but {g:Nat} (h:Sl w lo hi sz A rows) (hb:w.grownBy w' (some g)) (hg:g < lo∨hi≤g):Sl w' lo hi sz A rows:=
 h.keep hb.size fun b h1 h2 h3=>hb.block b h3 (fun e=>by injection e;omega)
theorem Sl.drew (h:Sl w lo hi sz A rows):Sl w.drew lo hi sz A rows:=h
theorem Sl.alloc (h:Sl w lo hi sz A rows) (o:Obj):Sl (w.alloc o) lo hi sz A rows:=h.keep (by simp) fun b _ _ h3=>Below.heap_alloc w o b h3
theorem Sl.setCell (h:Sl w lo hi sz A rows) {p:Addr} (hp:p.block < lo∨hi≤p.block) (u:Value):Sl (w.setCell p u) lo hi sz A rows:=
 h.keep (by simp[World.setCell]) fun b h1 h2 _=>Below.heap_setCell w p u b (by omega)
end
def Own (w:World) (base:Nat) (e:TypeId) (sz:Nat) (v:Value) (rows:List (List Value)):Prop:=
 w.ownsRow base e sz v rows.length rows.flatten∧∀r∈rows,r.length=sz
theorem zj2 {sz:Nat}:∀(rows:List (List Value)),(∀r∈rows,r.length=sz)→∀(k:Nat) (r:List Value),rows[k]?=some r→∀(j:Nat) (u:Value),r[j]?=some u→rows.flatten[k*sz+j]?=some u
 | [],_,k,r,hk,_,_,_=>by simp at hk
 | x :: l,h,0,r,hk,j,u,hu=>by
  simp only[List.getElem?_cons_zero,Option.some.injEq] at hk
  subst hk
  have hj:j < x.length:=by
   rcases Nat.lt_or_ge j x.length with h|h
   ·exact h
   ·rw[List.getElem?_eq_none h] at hu;cases hu
  rw[List.flatten_cons,Nat.zero_mul,Nat.zero_add,List.getElem?_append_left hj];exact hu
 | x :: l,h,k+1,r,hk,j,u,hu=>by
  simp only[List.getElem?_cons_succ] at hk
  have hx:=h x (by simp)
  rw[List.flatten_cons,List.getElem?_append_right (by rw[hx,Nat.add_mul];omega)]
  have:=zj2 l (fun r hr=>h r (by simp[hr])) k r hk j u hu
  rw[show (k+1)*sz+j - x.length=k*sz+j from by rw[hx,Nat.add_mul];omega]
  exact this
section
variable {w w':World} {base:Nat} {e:TypeId} {sz:Nat} {v:Value} {rows:List (List Value)}
theorem Own.nil (w:World) (base:Nat) (e:TypeId) (sz:Nat):Own w base e sz (.slice none 0 0) []:=⟨World.ownsRow_nil w base e sz,fun _ h=>by cases h⟩
theorem Own.form (h:Own w base e sz v rows):∃A c,v = .slice A rows.length c∧rows.length≤c∧Sl w base w.heap.size sz A rows:=by
 obtain⟨⟨h1,h2⟩,h3⟩:=h
 rcases h2 with⟨rfl,hn⟩|⟨g,cap,cur,rfl,hb,hh,hnc,hcm,hcs,ht⟩
 ·have:rows = []:=List.eq_nil_of_length_eq_zero hn
  subst this
  exact⟨none,0,rfl,Nat.le_refl _,Sl.nil⟩
 ·refine⟨_,cap,rfl,hnc,fun hn=>⟨g,0,rfl,hb, ?_, ?_,fun k r hk j u hu=>?_⟩⟩
  ·exact Blk.lt (t:=e) (cs:=cur) hh
  ·exact Blk.lt (t:=e) (cs:=cur) hh
  ·have hf:=zj2 rows h3 k r hk j u hu
   rw[←ht] at hf
   have hlt:k*sz+j < rows.length*sz:=by
    rcases Nat.lt_or_ge (k*sz+j) (rows.length*sz) with h|h
    ·exact h
    ·rw[List.getElem?_eq_none (by rw[List.length_take];omega)] at hf;cases hf
   rw[List.getElem?_take_of_lt hlt,Array.getElem?_toList] at hf
   rw[show 0+k*sz+j=k*sz+j from by omega]
   rw[Blk.cell (t:=e) (cs:=cur) hh];exact hf
theorem Own.sl {A:Option Addr} {n c:Nat} (h:Own w base e sz (.slice A n c) rows):n=rows.length∧n≤c∧Sl w base w.heap.size sz A rows:=by
 obtain⟨A',c',hv,hc,hs⟩:=h.form
 injection hv with h1 h2 h3
 subst h1;subst h2;subst h3
 exact⟨rfl,hc,hs⟩
theorem Own.kept {row:Option Nat} (h:Own w base e sz v rows) (hg:w.grownBy w' row) (hne:v.ownBlock=none∨v.ownBlock≠row):Own w' base e sz v rows:=⟨h.1.kept hg hne,h.2⟩
theorem Own.grow (h:Own w base e sz v rows) (hb:Below w.heap.size w w'):Own w' base e sz v rows:=
 ⟨h.1.kept (row:=none) ⟨hb.os,hb.tape,hb.output,hb.size,fun k hk _=>hb.block k hk⟩ (by cases v.ownBlock <;> simp),h.2⟩
theorem Own.alloc (h:Own w base e sz v rows) (o:Obj):Own (w.alloc o) base e sz v rows:=⟨h.1.alloc o,h.2⟩
theorem Own.drew (h:Own w base e sz v rows):Own w.drew base e sz v rows:=h
theorem Own.lt (h:Own w base e sz v rows):∀k,v.ownBlock=some k→base≤k∧k < w.heap.size:=h.1.lt
theorem Own.setCell (h:Own w base e sz v rows) {p:Addr} (hp:v.ownBlock≠some p.block) (u:Value):Own (w.setCell p u) base e sz v rows:=by
 refine⟨⟨h.1.1, ?_⟩,h.2⟩
 rcases h.1.2 with h|⟨g,cap,cur,hv,hg,hh,r⟩
 ·exact .inl h
 ·refine .inr ⟨g,cap,cur,hv,hg, ?_,r⟩
  subst hv
  rw[Below.heap_setCell _ _ _ _ (fun e=>hp (by simp[Value.ownBlock,e]))];exact hh
end
theorem grownBy_alloc {a w:World} {row:Option Nat} (h:a.grownBy w row) (o:Obj):a.grownBy (w.alloc o) row:=
 ⟨h.os,h.tape,h.output,Nat.le_trans h.size (by simp),fun i hi hne=>(Below.heap_alloc w o i (Nat.lt_of_lt_of_le hi h.size)).trans (h.block i hi hne)⟩
structure ElemTy (P:Program) (t e:TypeId) (sz:Nat):Prop where
 ht:P.underlying t=some (.slice e)
 hi:∃(i:TypeInfo) (z:Value),P.info? e=some i∧i.zero=some z∧i.size=sz∧i.bytes≤256∧z.cells.size=sz
 hsz:0 < sz
section
variable {P:Program} {w:World}
theorem zP11 {base:Nat} {t e ty:TypeId} {sz:Nat} (E:ElemTy P t e sz) {v:Value} {rows:List (List Value)} (hown:Own w base e sz v rows)
    {lo hi:Nat} {A:Option Addr} {m c:Nat} {news:List (List Value)} (hm:m=news.length) (hr:Sl w lo hi sz A news) (hl:∀r∈news,r.length=sz) (h1:∀r∈news,∀u∈r,u.oneCell'=true)
    (h63:rows.length+news.length≤1073741824) (hbase:base≤w.heap.size) :
    ∃v' w',(Builtin.append_ #[t,t] ty #[v,.slice A m c]).run P w = .ok v' w'∧Own w' base e sz v' (rows++news)∧w.grownBy w' v.ownBlock∧(v'.ownBlock=v.ownBlock∨v'.ownBlock=some w.heap.size):=by
 obtain⟨i,z,hi,hz,hs,hby,hzs⟩:=E.hi
 subst hm
 by_cases hn:news = []
 ·subst hn
  simp only[List.length_nil,List.append_nil]
  refine⟨v,w, ?_,hown,World.grownBy.refl w _,.inl rfl⟩
  rcases hown.1.2 with⟨rfl,h0⟩|⟨g,cap,cur,rfl,_,hh,hnc,_⟩
  ·cases A with
   | none=>simp[Builtin.append_,run_underlying E.ht,sizeOf,typeInfo,hi,Builtin.lenOf,Builtin.firstCells]
   | some a=>simp[Builtin.append_,run_underlying E.ht,sizeOf,typeInfo,hi,Builtin.lenOf,Builtin.firstCells,loadCells,loadCellsFrom]
  ·cases A with
   | none=>simp[Builtin.append_,run_underlying E.ht,sizeOf,typeInfo,hi,Builtin.lenOf,Builtin.firstCells,hnc,storeCells]
   | some a=>simp[Builtin.append_,run_underlying E.ht,sizeOf,typeInfo,hi,Builtin.lenOf,Builtin.firstCells,hnc,storeCells,loadCells,loadCellsFrom]
 ·obtain⟨b,off,rfl,_,_,_,hc⟩:=hr hn
  have hfl:news.flatten.length=news.length*sz:=by
   have:∀l:List (List Value),(∀r∈l,r.length=sz)→l.flatten.length=l.length*sz:=by
    intro l;induction l with
    | nil=>intro _;simp
    | cons x l ih=>intro h;rw[List.flatten_cons,List.length_append,ih (fun r hr=>h r (by simp[hr])),h x (by simp),List.length_cons,Nat.add_mul];omega
   exact this news hl
  obtain⟨v',w',hrun,h2,h3,_,h5⟩:=run_append_own_at (P:=P) w base t ty e i z sz i.bytes E.ht hi hz hs rfl hzs E.hsz v rows.length rows.flatten hown.1 ⟨b,off,none⟩ news.length c news.flatten hfl
   (fun j u hj=>by
    have hjl:j < news.length*sz:=by
     rcases Nat.lt_or_ge j (news.length*sz) with h|h
     ·exact h
     ·rw[List.getElem?_eq_none (by omega)] at hj;cases hj
    have hsz:=E.hsz
    have hk:j / sz < news.length:=Nat.div_lt_of_lt_mul (by rw[Nat.mul_comm];exact hjl)
    have hr0:news[j / sz]?=some news[j / sz]:=List.getElem?_eq_getElem hk
    have hjm:j % sz < sz:=Nat.mod_lt _ hsz
    have hrl:=hl _ (List.getElem_mem hk)
    have hu0:(news[j / sz])[j % sz]?=some ((news[j / sz])[j % sz]'(by omega)):=List.getElem?_eq_getElem (by omega)
    have hf:=zj2 news hl _ _ hr0 _ _ hu0
    have hdm:j / sz*sz+j % sz=j:=by rw[Nat.mul_comm];exact Nat.div_add_mod j sz
    rw[hdm,hj] at hf
    injection hf with hf
    have:=hc _ _ hr0 _ _ hu0
    rw[←hf] at this
    rw[Nat.add_assoc,hdm] at this
    unfold Addr.add
    split
    ·rename_i h0;subst h0;simpa using this
    ·exact this)
   (fun u hu=>by
    obtain⟨r,hr,hur⟩:=List.mem_flatten.1 hu
    exact h1 r hr u hur)
   (by simp only[maxLen];omega)
   (by
    have:(rows.length+news.length)*i.bytes≤1073741824*256:=Nat.mul_le_mul h63 hby
    omega)
   hbase
  refine⟨v',w',hrun,⟨?_,fun r hr=>?_⟩,h3,h5⟩
  ·rw[List.length_append,List.flatten_append];exact h2
  ·rcases List.mem_append.1 hr with h|h
   ·exact hown.2 r h
   ·exact hl r h
theorem Sl.lay {w':World} {g:Nat} {t:TypeId} {sz:Nat} {rows:List (List Value)} (h:Blk w' g t rows.flatten.toArray) (hl:∀r∈rows,r.length=sz):Sl w' g (g+1) sz (some ⟨g,0,none⟩) rows:=fun _=>by
 refine⟨g,0,rfl,Nat.le_refl _,by omega,h.lt,fun k r hk j u hu=>?_⟩
 rw[h.cell,show 0+k*sz+j=k*sz+j from by omega]
 have:=zj2 rows hl k r hk j u hu
 simpa using this
theorem Sl.one {w':World} {g:Nat} {t:TypeId} {sz:Nat} {r:List Value} (h:Blk w' g t r.toArray):Sl w' g (g+1) sz (some ⟨g,0,none⟩) [r]:=fun _=>by
 refine⟨g,0,rfl,Nat.le_refl _,by omega,h.lt,fun k r' hk j u hu=>?_⟩
 cases k with
 | zero=>
  simp only[List.getElem?_cons_zero,Option.some.injEq] at hk
  subst hk
  rw[h.cell]
  simpa using hu
 | succ k=>simp at hk
end
end
section
open Go Go.RowKit
theorem zR5 {α:Type}:∀(a:Ask α) (w:World),w.drawn≤(w.ask a).2.drawn
 | .done a,w=>Nat.le_refl _
 | .ask what range k,w=>by
  unfold World.ask
  dsimp only
  split
  ·exact zR5 _ _
  ·exact Nat.le_trans (Nat.le_succ _) (zR5 (k _) { w with drawn:=w.drawn+1 })
theorem zd5 (w:World) (c:Sys):w.drawn≤(w.sys c).2.drawn:=by
 have h:=zR5 (Kernel.perform c w.os) w
 unfold World.sys
 split
 ·exact Nat.le_refl _
 ·rename_i h1;rw[h1] at h;exact h
theorem zc5 {P:Program} {w w':World} {at_:Addr} {u:TypeId} {a:Addr} {v:Value} {b:Bool} {l:List Addr} (h:w.viewStore P at_ u a v b = .ok (w',l)):w.drawn≤w'.drawn:=by
 unfold World.viewStore at h
 simp only[bind,Except.bind,pure,Except.pure,throw,throwThe,MonadExceptOf.throw] at h
 repeat' (split at h)
 all_goals first
  | (injection h with h;injection h with h h2;rw[←h];exact Nat.le_refl _)
  | cases h
theorem zC3 {P:Program} {w w':World} {a:Addr} {v:Value} {b:Bool} {l:List Addr} (h:w.farStore P a v b = .ok (w',l)):w.drawn≤w'.drawn:=by
 unfold World.farStore at h
 split at h
 ·split at h
  ·rename_i h1;injection h with h;subst h;exact zc5 h1
  ·cases h
 ·cases h
theorem zz2 {α:Type} {P:Program}:∀(s:Sem α) (w:World) {v:α} {w':World},s.run P w = .ok v w'→w.drawn≤w'.drawn:=by
 intro s
 induction s with
 | pure a=>intro w v w' h;simp[Sem.run] at h;rw[h.2];exact Nat.le_refl _
 | load m a k ih=>
  intro w v w' h
  simp only[Sem.run] at h
  split at h
  ·exact ih _ _ h
  ·split at h
   ·exact ih _ _ h
   ·cases h
 | store m a x k ih=>
  intro w v w' h
  cases x <;> simp only[Sem.run] at h
  all_goals first
   | (cases h;done)
   | (split at h
      ·split at h
       ·cases h
       ·exact ih (w.setCell a _) h
      ·split at h
       ·rename_i h1;exact Nat.le_trans (zC3 h1) (ih _ h)
       ·cases h)
 | new o k ih=>intro w v w' h;simp only[Sem.run] at h;exact ih _ { w with heap:=w.heap.push o } h
 | shape r k ih=>intro w v w' h;simp only[Sem.run] at h;exact ih _ _ h
 | freeze a n k ih=>
  intro w v w' h;simp only[Sem.run] at h
  have:=ih _ h
  unfold World.freeze at this
  split at this <;> exact this
 | frozen a k ih=>intro w v w' h;simp only[Sem.run] at h;exact ih _ _ h
 | getObj r k ih=>
  intro w v w' h;simp only[Sem.run] at h
  split at h
  ·cases h
  ·exact ih _ _ h
  ·cases h
 | setObj r o k ih=>
  intro w v w' h;simp only[Sem.run] at h
  split at h
  ·cases h
  ·exact ih { w with heap:=w.heap.setIfInBounds r o } h
  ·cases h
 | choose q k ih=>
  intro w v w' h;simp only[Sem.run] at h
  split at h
  ·exact ih _ _ h
  ·exact Nat.le_trans (Nat.le_succ _) (ih _ { w with drawn:=w.drawn+1 } h)
 | sys c k ih=>intro w v w' h;simp only[Sem.run] at h;exact Nat.le_trans (zd5 _ _) (ih _ _ h)
 | program k ih=>intro w v w' h;simp only[Sem.run] at h;exact ih _ _ h
 | mark m k ih=>intro w v w' h;simp only[Sem.run] at h;exact ih _ h
 | halt h=>intro w v w' h;simp[Sem.run] at h
structure Stp (w w':World) (S:Nat→Prop):Prop where
 os:w'.os=w.os
 tape:w'.tape=w.tape
 output:w'.output=w.output
 size:w.heap.size≤w'.heap.size
 block:∀b,b < w.heap.size→¬S b→w'.heap[b]?=w.heap[b]?
 drawn:w.drawn≤w'.drawn
theorem Stp.refl (w:World) (S:Nat→Prop):Stp w w S:=⟨rfl,rfl,rfl,Nat.le_refl _,fun _ _ _=>rfl,Nat.le_refl _⟩
theorem Stp.trans {a b c:World} {S T:Nat→Prop} (h:Stp a b S) (k:Stp b c T) (hT:∀x,x < a.heap.size→T x→S x):Stp a c S:=
 ⟨k.os.trans h.os,k.tape.trans h.tape,k.output.trans h.output,Nat.le_trans h.size k.size,fun i hi hn=>(k.block i (Nat.lt_of_lt_of_le hi h.size) (fun ht=>hn (hT i hi ht))).trans (h.block i hi hn),Nat.le_trans h.drawn k.drawn⟩
theorem Stp.alloc {a w:World} {S:Nat→Prop} (h:Stp a w S) (o:Obj):Stp a (w.alloc o) S:=⟨h.os,h.tape,h.output,Nat.le_trans h.size (by simp),fun i hi hn=>(Below.heap_alloc w o i (Nat.lt_of_lt_of_le hi h.size)).trans (h.block i hi hn),h.drawn⟩
theorem Stp.drew {a w:World} {S:Nat→Prop} (h:Stp a w S):Stp a w.drew S:=⟨h.os,h.tape,h.output,h.size,h.block,Nat.le_succ_of_le h.drawn⟩
theorem Stp.below {w w':World} (h:Stp w w' fun _=>False):Below w.heap.size w w':=⟨h.os,h.tape,h.output,h.size,fun b hb=>h.block b hb (fun h=>h)⟩
def fnV:Fn→Array Value→Value
 | .via _ _ f _,a=>.func (.func f) a #[]
 | fn,a=>.func fn #[] a
inductive CV where
 | s (v:Value)
 | r (v:Value) (rows:List (List CV))
 /-- A pointer to a struct that is only read. -/
 | p (v:Value) (row:List CV)
 /-- A function whose captured values are only read. -/
 | f (v:Value) (fn:Fn) (caps:List CV)
def CV.den:CV→Value
 | .s v=>v
 | .r v _=>v
 | .p v _=>v
 | .f v _ _=>v
inductive Good (w:World) (S:Nat→Prop):CV→Prop where
 | s (v:Value):Good w S (.s v)
 | nil (A:Option Addr) (c:Nat):Good w S (.r (.slice A 0 c) [])
 | r (rows:List (List CV)) (b off sz n c:Nat) (hn:rows.length=n) (hc:n≤c) (hS:S b) (hr:∀row∈rows,row.length=sz)
     (hcell:∀(k j:Nat) (row:List CV) (u:CV),rows[k]?=some row→row[j]?=some u→w.cell? ⟨b,off+k*sz+j,none⟩=some u.den)
     (hg:∀row∈rows,∀u∈row,Good w S u):Good w S (.r (.slice (some ⟨b,off,none⟩) n c) rows)
 | p (row:List CV) (b off:Nat) (hS:S b) (hcell:∀(j:Nat) (u:CV),row[j]?=some u→w.cell? ⟨b,off+j,none⟩=some u.den) (hg:∀u∈row,Good w S u):Good w S (.p (.pointer (some ⟨b,off,none⟩)) row)
 | f (fn:Fn) (caps:List CV) (hg:∀u∈caps,Good w S u):Good w S (.f (fnV fn (caps.map CV.den).toArray) fn caps)
theorem Good.mono {w w':World} {S S':Nat→Prop} {x:CV} (h:Good w S x) (hS:∀b,S b→S' b∧w'.heap[b]?=w.heap[b]?):Good w' S' x:=by
 induction h with
 | s v=>exact .s v
 | nil=>exact .nil _ _
 | r rows b off sz n c hn hc hSb hr hcell hg ih=>
  refine .r rows b off sz n c hn hc (hS b hSb).1 hr (fun k j row u h1 h2=>?_) ih
  rw[World.cell?_of_block (w:=w) (hS b hSb).2]
  exact hcell k j row u h1 h2
 | p row b off hSb hcell hg ih=>
  refine .p row b off (hS b hSb).1 (fun j u h1=>?_) ih
  rw[World.cell?_of_block (w:=w) (hS b hSb).2]
  exact hcell j u h1
 | f fn caps hg ih=>exact .f fn caps ih
inductive AV where
 | c (x:CV)
 | p (b k j:Nat)
 | o (b k n c:Nat)
 | q (v:Value) (k sz:Nat) (row:List CV) (j:Nat)
 | a (l:List AV)
 | t (l:List AV)
 | f (fn:Fn) (caps:List AV)
 | mp (b:Nat)
inductive PE where
 | bx (v:Value) (l:List CV)
 | ar (v:Value) (n c:Nat) (e:TypeId) (sz cap:Nat) (rows:List (List CV))
 | out
def PE.blk:PE→Option Nat
 | .bx (.pointer (some ad)) _=>some ad.block
 | .ar (.slice (some ad) _ _) ..=>some ad.block
 | _=>none
inductive OB where
 | box (l:List AV)
 | arr (e:TypeId) (sz cap:Nat) (rows:List (List CV))
 | dead
 /-- No block: a value that is said by its cells, too. -/
 | eqv (x:AV) (v:Value)
 /-- A map: its entries (when born, key, value), its clock. -/
 | map (es:List (Nat × Value × CV)) (ck:Nat)
 /-- A walk through a map: through which, from which clock on, what was seen. -/
 | itr (b since:Nat) (seen:List Nat) (last:Nat)
 /-- A walk through a string. -/
 | sit (s:ByteArray) (pos:Nat)
 /-- The bytes of a string, as a slice of the call's own: its value, its bytes. -/
 | bts (v:Value) (l:List UInt8)
 /-- A variable whose type is known. -/
 | boxt (t:TypeId) (l:List AV)
 /-- No block: blocks of the call's own, in any number, by their raw values. -/
 | pool (l:List PE)
def OB.shp:OB→Nat
 | .box _=>1
 | .map _ _=>2
 | .bts _ _=>3
 | .boxt _ _=>4
 | .pool _=>5
 | _=>0
def OB.hasP (o:OB) (k B:Nat):Prop:=∃l e,o = .pool l∧l[k]?=some e∧e.blk=some B
def inP (H:List OB) (i k B:Nat):Prop:=∃o,H[i]?=some o∧o.hasP k B
def OB.sz:OB→Nat
 | .arr _ sz _ _=>sz
 | _=>0
def OB.cap:OB→Nat
 | .arr _ _ c _=>c
 | _=>0
def szAt (H:List OB) (b:Nat):Nat:=match H[b]? with|some o=>o.sz|none=>0
def capAt (H:List OB) (b:Nat):Nat:=match H[b]? with|some o=>o.cap|none=>0
def atB (ρ:List (Option Nat)) (b:Nat):Option Nat:=match ρ[b]? with|some m=>m|none=>none
mutual
def AV.den (ρ:List (Option Nat)) (H:List OB):AV→Value
 | .c x=>x.den
 | .p b k j=>.pointer ((atB ρ b).map fun B=>⟨B,k*szAt H b+j,none⟩)
 | .o b k n m=>.slice ((atB ρ b).map fun B=>⟨B,k*szAt H b,none⟩) n m
 | .q v k sz _ j=>.pointer (match v with | .slice (some ad) _ _=>some ⟨ad.block,ad.off+k*sz+j,none⟩|_=>none)
 | .a l=>.agg (AV.denL ρ H l).toArray
 | .t l=>.tuple (AV.denL ρ H l).toArray
 | .f fn caps=>fnV fn (AV.denL ρ H caps).toArray
 | .mp b=>.map (atB ρ b)
def AV.denL (ρ:List (Option Nat)) (H:List OB):List AV→List Value
 | []=>[]
 | x :: l=>x.den ρ H :: AV.denL ρ H l
end
theorem AV.denL_eq (ρ:List (Option Nat)) (H:List OB):∀l,AV.denL ρ H l=l.map (AV.den ρ H)
 | []=>rfl
 | x :: l=>by rw[AV.denL,AV.denL_eq ρ H l];rfl
inductive WF (w:World) (S:Nat→Prop) (ρ:List (Option Nat)) (H:List OB):AV→Prop where
 | c {x:CV} (h:Good w S x):WF w S ρ H (.c x)
 | p {b k j:Nat} (h0:b < H.length) (h:(atB ρ b).isSome=true):WF w S ρ H (.p b k j)
 | o {b k n c:Nat} (h0:b < H.length) (h1:n≤c) (h2:k+c≤capAt H b) (h3:atB ρ b=none→n=0∧c=0):WF w S ρ H (.o b k n c)
 | q {B off n c k sz j:Nat} {row:List CV} (h1:S B) (h2:∀(i:Nat) (u:CV),row[i]?=some u→w.cell? ⟨B,off+k*sz+i,none⟩=some u.den) (h3:∀u∈row,Good w S u):WF w S ρ H (.q (.slice (some ⟨B,off,none⟩) n c) k sz row j)
 | a {l:List AV} (h:∀x∈l,WF w S ρ H x):WF w S ρ H (.a l)
 | t {l:List AV} (h:∀x∈l,WF w S ρ H x):WF w S ρ H (.t l)
 | f {fn:Fn} {caps:List AV} (h:∀x∈caps,WF w S ρ H x):WF w S ρ H (.f fn caps)
 | mp {b:Nat} (h0:b < H.length) (h:(atB ρ b).isSome=true):WF w S ρ H (.mp b)
def PEok (w:World) (S:Nat→Prop):PE→Prop
 | .bx v l=>∃B t,v = .pointer (some ⟨B,0,none⟩)∧w.heap[B]?=some (.cells (l.map CV.den).toArray t (0,0))∧∀u∈l,Good w S u∧u.den.oneCell'=true
 | .ar v n c e sz cap rows=>(v = .slice none 0 0∧n=0∧c=0∧cap=0∧rows = [])∨∃B cs,v = .slice (some ⟨B,0,none⟩) n c∧n≤c∧c≤cap∧w.heap[B]?=some (.cells cs e (0,0))∧cs.size=cap*sz∧cap≤maxLen∧rows.length≤cap ∧
     (∀row∈rows,row.length=sz∧∀u∈row,Good w S u∧u.den.oneCell'=true)∧∀(k j:Nat) (row:List CV) (u:CV),rows[k]?=some row→row[j]?=some u→cs[k*sz+j]?=some u.den
 | .out=>True
theorem PEok.mono {w w':World} {S S':Nat→Prop} {e:PE} (h:PEok w S e) (hS:∀u,Good w S u→Good w' S' u) (hB:∀B,e.blk=some B→w'.heap[B]?=w.heap[B]?):PEok w' S' e:=by
 cases e with
 | bx v l=>
  obtain⟨B,t,rfl,h1,h2⟩:=h
  exact⟨B,t,rfl,by rw[hB B rfl];exact h1,fun u hu=>⟨hS u (h2 u hu).1,(h2 u hu).2⟩⟩
 | ar v n c e sz cap rows=>
  rcases h with h|⟨B,cs,rfl,h1,h2,h3,h4,h5,h6,h7,h8⟩
  ·exact .inl h
  ·exact .inr ⟨B,cs,rfl,h1,h2,by rw[hB B rfl];exact h3,h4,h5,h6,fun row hr=>⟨(h7 row hr).1,fun u hu=>⟨hS u ((h7 row hr).2 u hu).1,((h7 row hr).2 u hu).2⟩⟩,h8⟩
 | out=>trivial
def OwnB (w:World) (S:Nat→Prop) (ρ:List (Option Nat)) (H:List OB):OB→Option Nat→Prop
 | .box l,m=>∃B t,m=some B∧w.heap[B]?=some (.cells (l.map (AV.den ρ H)).toArray t (0,0))∧∀x∈l,WF w S ρ H x∧(x.den ρ H).oneCell'=true
 | .arr e sz cap rows,m=>(m=none∧cap=0∧rows = [])∨∃B cs,m=some B∧w.heap[B]?=some (.cells cs e (0,0))∧cs.size=cap*sz∧cap≤maxLen∧rows.length≤cap ∧
     (∀row∈rows,row.length=sz∧∀u∈row,Good w S u∧u.den.oneCell'=true)∧∀(k j:Nat) (row:List CV) (u:CV),rows[k]?=some row→row[j]?=some u→cs[k*sz+j]?=some u.den
 | .dead,_=>True
 | .eqv x v,_=>x.den ρ H=v∧WF w S ρ H x
 | .map es ck,m=>∃B ms,m=some B∧w.heap[B]?=some (.map ms ck)∧ms.toList=es.map (fun e=>(⟨e.2.1,e.2.2.den,e.1⟩:MapEntry))∧∀e∈es,Good w S e.2.2
 | .itr b since seen last,m=>∃B,m=some B∧w.heap[B]?=some (.mapIter (atB ρ b) since seen.toArray last)∧b < H.length∧(atB ρ b).isSome=true
 | .sit s pos,m=>∃B,m=some B∧w.heap[B]?=some (.stringIter s pos)
 | .boxt t l,m=>∃B,m=some B∧w.heap[B]?=some (.cells (l.map (AV.den ρ H)).toArray t (0,0))∧∀x∈l,WF w S ρ H x∧(x.den ρ H).oneCell'=true
 | .pool l,m=>m=none∧∀e∈l,PEok w S e
 | .bts v l,m=>∃B cs e n,m=some B∧v = .slice (some ⟨B,0,none⟩) l.length n∧w.heap[B]?=some (.cells cs e (cs.size,cs.size+1))∧∀(k:Nat) (b:UInt8),l[k]?=some b→cs[k]?=some (.int .u8 b.toNat)
structure PL (w:World) (S:Nat→Prop) (ρ:List (Option Nat)) (H:List OB):Prop where
 pd:∀i k i' k' B,inP H i k B→inP H i' k' B→i=i'∧k=k'
 ps:∀i k B,inP H i k B→¬S B∧(∀j,atB ρ j≠some B)∧B < w.heap.size
theorem PL.mono {w w':World} {S S':Nat→Prop} {ρ ρ':List (Option Nat)} {H H':List OB} (h:PL w S ρ H) (hP:∀i k B,inP H' i k B→inP H i k B) (hS:∀B,S' B→S B∨w.heap.size≤B∨∃j,atB ρ j=some B) (hρ:∀j B,atB ρ' j=some B→(∃j',atB ρ j'=some B)∨w.heap.size≤B) (hs:w.heap.size≤w'.heap.size):PL w' S' ρ' H':=
 ⟨fun i k i' k' B h1 h2=>h.pd i k i' k' B (hP _ _ _ h1) (hP _ _ _ h2),fun i k B h1=>by
  obtain⟨g1,g2,g3⟩:=h.ps i k B (hP _ _ _ h1)
  refine⟨fun hb=>?_,fun j hj=>?_,Nat.lt_of_lt_of_le g3 hs⟩
  ·rcases hS B hb with h'|h'|⟨j,h'⟩
   ·exact g1 h'
   ·omega
   ·exact g2 j h'
  ·rcases hρ j B hj with⟨j',h'⟩|h'
   ·exact g2 j' h'
   ·omega⟩
theorem PL.same {w w':World} {S:Nat→Prop} {ρ:List (Option Nat)} {H H':List OB} (h:PL w S ρ H) (hP:∀i k B,inP H' i k B→inP H i k B) (hs:w.heap.size≤w'.heap.size):PL w' S ρ H':=
 h.mono hP (fun _ h=>.inl h) (fun j _ h=>.inl ⟨j,h⟩) hs
theorem PL.none {w:World} {S:Nat→Prop} {ρ:List (Option Nat)} {H:List OB} (h:∀i k B,¬inP H i k B):PL w S ρ H:=⟨fun i k _ _ B h1=>absurd h1 (h i k B),fun i k B h1=>absurd h1 (h i k B)⟩
theorem zx1 {i k B:Nat}:¬inP [] i k B:=fun⟨o,h,_⟩=>by simp at h
theorem zs1 {o:OB} {k B:Nat} (h:o.hasP k B):∃l,o = .pool l:=let ⟨l,_,h,_⟩:=h;⟨l,h⟩
structure RH (w:World) (S:Nat→Prop) (ρ:List (Option Nat)) (H:List OB):Prop where
 len:ρ.length=H.length
 nd:∀i i' B,atB ρ i=some B→atB ρ i'=some B→i=i'
 ap:∀i B,atB ρ i=some B→¬S B
 lt:∀i B,atB ρ i=some B→B < w.heap.size
 sS:∀b,S b→b < w.heap.size
 blk:∀i o,H[i]?=some o→OwnB w S ρ H o (atB ρ i)
 pl:PL w S ρ H
abbrev Fm:=List (Nat × AV)
structure Env where
 w0:World
 S0:Nat→Prop
 r0:List (Option Nat)
 H0:List OB
 pin:Bool
 /-- Whether it runs in a round; the marks for deferred calls. -/
 rd:Option Nat:=none
 dfs:List Deferred:=[]
def Env.fc (E:Env):Fence:=match E.rd with
 | none=>Fence.wide
 | some l=>Fence.wide.inRound l
theorem Env.ok (E:Env):FcOk E.fc:=by
 unfold Env.fc
 cases E.rd with
 | none=>exact .inl rfl
 | some l=>exact .inr ⟨l,rfl⟩
def Env.W (E:Env) (B:Nat):Prop:=(∃i,atB E.r0 i=some B)∨∃i k,inP E.H0 i k B
structure R (N:Nat) (E:Env) (S:Nat→Prop) (ρ:List (Option Nat)) (F:Fm) (H:List OB) (a:Act) (w:World):Prop where
 df:a.defers=E.dfs
 sz:N≤a.tmps.size
 fr:∀i x,F.lookup i=some x→a.tmps[i]?=some (x.den ρ H)∧WF w S ρ H x
 hp:RH w S ρ H
 st:Stp E.w0 w E.W
 nw:∀i B,atB ρ i=some B→(E.w0.heap.size≤B∨∃i k,inP E.H0 i k B)∨(i < E.H0.length∧atB E.r0 i=some B)
 nS:∀b,S b→E.S0 b∨(E.w0.heap.size≤b∨∃i k,inP E.H0 i k b)
 pw:∀i k B,inP H i k B→E.w0.heap.size≤B∨∃i k,inP E.H0 i k B
 ln:∀i,i < E.H0.length→i < H.length∧∀o,E.H0[i]?=some o→o.shp≠0→atB ρ i=atB E.r0 i∧∃o',H[i]?=some o'∧o'.shp=o.shp
 pn:E.pin=true→∀i,i < E.H0.length→atB ρ i=atB E.r0 i∧szAt H i=szAt E.H0 i∧capAt H i=capAt E.H0 i
def cvOf:Value→CV
 | .slice none 0 0=>.r (.slice none 0 0) []
 | v=>.s v
theorem zO1 (v:Value):(cvOf v).den=v:=by unfold cvOf;split <;> rfl
theorem zM2 (w:World) (S:Nat→Prop) (v:Value):Good w S (cvOf v):=by
 unfold cvOf;split
 ·exact .nil _ _
 ·exact .s _
def evC:Value→Option AV
 | .slice none 0 0=>some (.c (.r (.slice none 0 0) []))
 | v=>some (.c (.s v))
theorem zL17 (v:Value):evC v=some (.c (cvOf v)):=by unfold evC cvOf;split <;> rfl
def ev (F:Fm):Operand→Option AV
 | .tmp t=>F.lookup t
 | .const v=>evC v
 | .func f=>some (.f (.func f) [])
 | .global _=>none
section
variable {P:Program} {N:Nat} {E:Env} {S:Nat→Prop} {ρ:List (Option Nat)} {F:Fm} {H:List OB} {a:Act} {w:World}
theorem R.ev {x:Operand} {v:AV} (h:R N E S ρ F H a w) (hx:ev F x=some v):a.eval x=v.den ρ H∧WF w S ρ H v:=by
 cases x with
 | tmp t=>
  obtain⟨h1,h2⟩:=h.fr t v hx
  exact⟨by rw[Act.eval,Array.getD_eq_getD_getElem?,h1];rfl,h2⟩
 | const c=>
  simp only[Go.Proofs.YtophoepbedlhjaaGreatDoor.ev,zL17,Option.some.injEq] at hx
  subst hx
  exact⟨(zO1 c).symm,.c (zM2 _ _ _)⟩
 | func f=>
  simp only[Go.Proofs.YtophoepbedlhjaaGreatDoor.ev,Option.some.injEq] at hx
  subst hx
  exact⟨rfl,.f (fun _ h=>by cases h)⟩
 | global g=>cases hx
theorem R.put {d:Nat} {x:AV} (h:R N E S ρ F H a w) (hd:d < N) (hx:WF w S ρ H x):R N E S ρ ((d,x) :: F) H (a.put (some d) (x.den ρ H)) w:=by
 refine⟨h.df,by simpa [Act.put] using h.sz,fun i y hy=>?_,h.hp,h.st,h.nw,h.nS,h.pw,h.ln,h.pn⟩
 by_cases hi:i=d
 ·subst hi
  simp only[List.lookup_cons,beq_self_eq_true,Option.some.injEq] at hy
  subst hy
  have:=h.sz
  exact⟨by simp[Act.put,Array.getElem?_setIfInBounds];omega,hx⟩
 ·rw[List.lookup_cons,show (i == d)=false from by simpa using hi] at hy
  obtain⟨h1,h2⟩:=h.fr i y hy
  exact⟨by simp only[Act.put];rw[Array.getElem?_setIfInBounds_ne (Ne.symm hi)];exact h1,h2⟩
def drop (F:Fm) (d:Nat):Fm:=F.filter fun e=>e.1 != d
def lift (N:Nat) (E:Env) (Q:Exit→Fm→List OB→Prop):Exit→Act→World→Prop:=fun x a w=>∃S ρ F H,Q x F H∧R N E S ρ F H a w
def AW (P:Program) (N:Nat) (E:Env) (c:Code) (F:Fm) (H:List OB) (Q:Exit→Fm→List OB→Prop):Prop:=∀S ρ a w,R N E S ρ F H a w→∀n,c.wpIn E.fc n P (lift N E Q) a w
def AL (P:Program) (N:Nat) (E:Env) (ops:Array Oper) (l:List Oper) (F:Fm) (H:List OB) (Q:Exit→Fm→List OB→Prop):Prop:=∀S ρ a w,R N E S ρ F H a w→∀n,wpListIn E.fc n P ops (lift N E Q) l a w
def Rd (P:Program) (N:Nat) (E:Env) (o:Oper) (F:Fm) (H:List OB) (x:AV):Prop:=∀S ρ a w,R N E S ρ F H a w→(execOp a.eval o).run P w = .ok (.value (x.den ρ H)) w∧WF w S ρ H x
def Ef (P:Program) (N:Nat) (E:Env) (o:Oper) (F:Fm) (H:List OB) (K:Fm→List OB→Prop):Prop:=∀S ρ a w,R N E S ρ F H a w→effO P o a w fun a' w'=>∃S' ρ' F' H',K F' H'∧R N E S' ρ' F' H' a' w'
def ASeq (K:Fm→List OB→Prop) (Q:Exit→Fm→List OB→Prop):Exit→Fm→List OB→Prop
 | .normal,F,H=>K F H
 | e,F,H=>Q e F H
def ABlk (id:Nat) (Q:Exit→Fm→List OB→Prop):Exit→Fm→List OB→Prop
 | .exit id',F,H=>if id'=id then Q .normal F H else Q (.exit id') F H
 | e,F,H=>Q e F H
variable {ops:Array Oper} {Q:Exit→Fm→List OB→Prop} {rest l:List Oper} {o:Oper}
theorem zI10 (h:Q .normal F H):AL P N E ops [] F H Q:=fun S ρ a w hr _=>wpListIn_nil ⟨S,ρ,F,H,h,hr⟩
theorem zT3 {d:Nat} {x:AV} (hg:o.guard=none) (hd:o.dst=some d) (hN:d < N) (hr:Rd P N E o F H x) (h:AL P N E ops rest ((d,x) :: F) H Q):AL P N E ops (o :: rest) F H Q:=fun S ρ a w hR n=>
 wpListIn_plain hg fun K hK=>by
  obtain⟨h1,h2⟩:=hr S ρ a w hR
  refine zX2 E.ok ?_
  unfold effO
  rw[h1]
  refine hK _ _ ?_
  rw[hd]
  exact h S ρ _ w (hR.put hN h2) n
theorem ze {K:Fm→List OB→Prop} (hg:o.guard=none) (hr:Ef P N E o F H K) (h:∀F' H',K F' H'→AL P N E ops rest F' H' Q):AL P N E ops (o :: rest) F H Q:=fun S ρ a w hR n=>
 wpListIn_plain hg fun K' hK=>by
  refine zX2 E.ok (zZ (fun a' w' hh=>?_) (hr S ρ a w hR))
  obtain⟨S',ρ',F',H',hk,hR'⟩:=hh
  exact hK _ _ (h F' H' hk S' ρ' a' w' hR' n)
theorem zH1 {i t:Nat} {oi:Oper} {b:Bool} (hR:R N E S ρ F H a w) (hi:ops[i]?=some oi) (ht:oi.dst=some t) (hb:F.lookup t=some (.c (.s (.bool b)))):yielded ops a.tmps i=some b:=by
 have:=(hR.fr t _ hb).1
 unfold yielded
 simp only[hi,Option.bind_some,ht,this]
 rfl
theorem zh18 {i t:Nat} {oi:Oper} {b:Bool} (hg:o.guard=some (i,b)) (hi:ops[i]?=some oi) (ht:oi.dst=some t) (hb:F.lookup t=some (.c (.s (.bool b)))) (h:AL P N E ops ({ o with guard:=none } :: rest) F H Q) :
    AL P N E ops (o :: rest) F H Q:=fun S ρ a w hR n=>by
 have h1:=h S ρ a w hR n
 unfold wpListIn at h1 ⊢
 rw[if_pos (by simp[Region.wanted])] at h1
 rw[if_pos (by simp[Region.wanted,hg,zH1 hR hi ht hb])]
 exact h1
theorem zc {id:Nat} (h:AL P N E l.toArray l F H Q):AW P N E (.region id l.toArray false) F H Q:=fun S ρ a w hR n=>wpIn_region_lit (h S ρ a w hR n)
theorem zK14 {x y:Code} (h:AW P N E x F H (ASeq (fun F H=>AW P N E y F H Q) Q)):AW P N E (.seq x y) F H Q:=fun S ρ a w hR n=>
 wpIn_seq (wpIn_mono (h S ρ a w hR n) fun e a' w' hh=>by
  obtain⟨S',ρ',F',H',hq,hR'⟩:=hh
  cases e
  case normal=>exact hq S' ρ' a' w' hR' n
  all_goals exact⟨S',ρ',F',H',hq,hR'⟩)
theorem zk13 {K:Fm→List OB→Prop} (h:K F H):ASeq K Q .normal F H:=h
theorem zc18 {K:Fm→List OB→Prop} (h:Q .ret F H):ASeq K Q .ret F H:=h
theorem zd18 {K:Fm→List OB→Prop} {id:Nat} (h:Q (.exit id) F H):ASeq K Q (.exit id) F H:=h
theorem zl18 {id:Nat} (h:Q .normal F H):ABlk id Q .normal F H:=h
theorem zj18 {id:Nat} (h:Q .ret F H):ABlk id Q .ret F H:=h
theorem zm18 {id:Nat} (h:Q .normal F H):ABlk id Q (.exit id) F H:=by simpa [ABlk] using h
theorem zk18 {id id':Nat} (hne:(id' == id)=false) (h:Q (.exit id') F H):ABlk id Q (.exit id') F H:=by
 have:¬id'=id:=by simpa using hne
 simpa [ABlk,this] using h
theorem zA16 (h:Q .normal F H):AW P N E .skip F H Q:=fun S ρ a w hR _=>wpIn_skip ⟨S,ρ,F,H,h,hR⟩
theorem zV17 (h:Q .ret F H):AW P N E .ret F H Q:=fun S ρ a w hR _=>wpIn_ret ⟨S,ρ,F,H,h,hR⟩
theorem zD16 {id:Nat} (h:Q (.exit id) F H):AW P N E (.exit id) F H Q:=fun S ρ a w hR _=>wpIn_exit ⟨S,ρ,F,H,h,hR⟩
theorem zi14 {id:Nat} {c:Code} (h:AW P N E c F H (ABlk id Q)):AW P N E (.block id c) F H Q:=fun S ρ a w hR n=>
 wpIn_block (wpIn_mono (h S ρ a w hR n) fun e a' w' hh=>by
  obtain⟨S',ρ',F',H',hq,hR'⟩:=hh
  cases e
  case exit id'=>
   simp only[Exit.inBlock,ABlk] at hq ⊢
   split
   ·rename_i he;rw[if_pos he] at hq;exact⟨S',ρ',F',H',hq,hR'⟩
   ·rename_i he;rw[if_neg he] at hq;exact⟨S',ρ',F',H',hq,hR'⟩
  all_goals exact⟨S',ρ',F',H',hq,hR'⟩)
theorem zj {c:Operand} {x y:Code} {b:Bool} (hc:ev F c=some (.c (.s (.bool b)))) (ht:b=true→AW P N E x F H Q) (hf:b=false→AW P N E y F H Q):AW P N E (.cond c x y) F H Q:=fun S ρ a w hR n=>
 wpIn_cond_split (hR.ev hc).1 (fun h=>ht h S ρ a w hR n) (fun h=>hf h S ρ a w hR n)
theorem zb {c:Operand} {x y:Code} (hc:ev F c=some (.c (.s (.bool true)))) (ht:AW P N E x F H Q):AW P N E (.cond c x y) F H Q:=zj hc (fun _=>ht) (fun h=>by cases h)
theorem za {c:Operand} {x y:Code} (hc:ev F c=some (.c (.s (.bool false)))) (hf:AW P N E y F H Q):AW P N E (.cond c x y) F H Q:=zj hc (fun h=>by cases h) (fun _=>hf)
theorem zC16 {c:Code} {Q':Exit→Fm→List OB→Prop} (h:AW P N E c F H Q) (hq:∀e F H,Q e F H→Q' e F H):AW P N E c F H Q':=fun S ρ a w hR n=>
 wpIn_mono (h S ρ a w hR n) fun e a' w' ⟨S',ρ',F',H',hh,hR'⟩=>⟨S',ρ',F',H',hq _ _ _ hh,hR'⟩
theorem zQ13 (p:Nat→Prop):∀n,p n→∃m,p m∧∀k,p k→m≤k:=by
 intro n
 induction n using Nat.strongRecOn with
 | _ n ih=>
  intro hn
  by_cases h:∃k,k < n∧p k
  ·obtain⟨k,hk,hp⟩:=h;exact ih k hk hp
  ·refine⟨n,hn,fun k hk=>?_⟩
   rcases Nat.lt_or_ge k n with h'|h'
   ·exact absurd ⟨k,h',hk⟩ h
   ·exact h'
theorem zv4 {p:Nat→Prop} (h:∃n,p n):∃m,p m∧∀k,p k→m≤k:=by obtain⟨n,hn⟩:=h;exact zQ13 p n hn
end
end
end Go.Proofs.YtophoepbedlhjaaGreatDoor
