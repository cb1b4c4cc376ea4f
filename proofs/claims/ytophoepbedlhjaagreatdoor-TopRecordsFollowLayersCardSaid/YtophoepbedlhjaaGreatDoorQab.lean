/- Words for memory that all walks of this seat use: a block known whole, a slice that reads as rows, a row of the call's own, what a call keeps. -/
import Derived.Below
import Derived.Laws.OwnMore
import Derived.Laws.Rows
import Derived.Deep.AppendLies
import Derived.Deep.Draws
import Derived.Maps.AppendAt
import Derived.OwnWalk
import Derived.Carry
import Derived.Test.YtophoepbedlhjaaGreatDoorQaa
set_option linter.unusedSimpArgs false
set_option linter.unusedVariables false
namespace Go.Proofs.YtophoepbedlhjaaGreatDoor
open Go Go.RowKit
def Blk (w:World) (g:Nat) (t:TypeId) (cs:Array Value):Prop:=w.heap[g]?=some (.cells cs t (0,0))
section
variable {w w':World} {g:Nat} {t:TypeId} {cs:Array Value}
theorem Blk.lt (h:Blk w g t cs):g < w.heap.size:=by
 rcases Nat.lt_or_ge g w.heap.size with hlt|hge
 ·exact hlt
 ·unfold Blk at h;rw[Array.getElem?_eq_none hge] at h;cases h
theorem Blk.cell (h:Blk w g t cs) (i:Nat):w.cell? ⟨g,i,none⟩=cs[i]?:=cell_of_row w g i cs t (0,0) h
theorem Blk.cells (h:Blk w g t cs):∀i,w.cell? ⟨g,i,none⟩=cs[i]?:=fun i=>h.cell i
theorem Blk.new (w:World) (t:TypeId) (cs:Array Value):Blk (w.alloc (.cells cs t)) w.heap.size t cs:=heap_alloc_new w _
theorem Blk.newAt {H:Nat} (w:World) (t:TypeId) (cs:Array Value) (hH:w.heap.size=H):Blk (w.alloc (.cells cs t)) H t cs:=by subst hH;exact heap_alloc_new w _
theorem Blk.drew (h:Blk w g t cs):Blk w.drew g t cs:=h
theorem Blk.drewN (h:Blk w g t cs) (n:Nat):Blk (w.drewN n) g t cs:=h
theorem Blk.alloc (h:Blk w g t cs) (o:Obj):Blk (w.alloc o) g t cs:=(Below.heap_alloc w o g h.lt).trans h
theorem Blk.far (h:Blk w g t cs) {p:Addr} (hp:g≠p.block) (u:Value):Blk (w.setCell p u) g t cs:=(Below.heap_setCell w p u g hp).trans h
theorem Blk.below {B:Nat} (h:Blk w g t cs) (hb:Below B w w') (hg:g < B):Blk w' g t cs:=(hb.block g hg).trans h
theorem Blk.grow (h:Blk w g t cs) (hb:Below w.heap.size w w'):Blk w' g t cs:=h.below hb h.lt
theorem Blk.grown {row:Option Nat} (h:Blk w g t cs) (hb:w.grownBy w' row) (hg:some g≠row):Blk w' g t cs:=(hb.block g h.lt hg).trans h
end
def Sl (w:World) (lo hi:Nat) (sz:Nat) (A:Option Addr) (rows:List (List Value)):Prop:=
 rows≠[]→∃b off,A=some ⟨b,off,none⟩∧lo≤b∧b < hi∧b < w.heap.size∧∀k r,rows[k]?=some r→∀j u,r[j]?=some u→w.cell? ⟨b,off+k*sz+j,none⟩=some u
section
variable {w w':World} {lo hi lo' hi' sz:Nat} {A:Option Addr} {rows:List (List Value)}
theorem Sl.nil:Sl w lo hi sz A []:=fun h=>absurd rfl h
theorem Sl.mono (h:Sl w lo hi sz A rows) (h1:lo'≤lo) (h2:hi≤hi'):Sl w lo' hi' sz A rows:=fun hn=>by
 obtain⟨b,off,e,a1,a2,a3,c⟩:=h hn
 exact⟨b,off,e,by omega,by omega,a3,c⟩
theorem Sl.keep (h:Sl w lo hi sz A rows) (hs:w.heap.size≤w'.heap.size) (hk:∀b,lo≤b→b < hi→b < w.heap.size→w'.heap[b]?=w.heap[b]?):Sl w' lo hi sz A rows:=fun hn=>by
 obtain⟨b,off,e,a1,a2,a3,c⟩:=h hn
 exact⟨b,off,e,a1,a2,by omega,fun k r hr j u hu=>(World.cell?_of_block (hk b a1 a2 a3)).trans (c k r hr j u hu)⟩
theorem Sl.below {B:Nat} (h:Sl w lo hi sz A rows) (hb:Below B w w') (hB:hi≤B):Sl w' lo hi sz A rows:=h.keep hb.size fun b _ h2 _=>hb.block b (by omega)
theorem Sl.grow (h:Sl w lo hi sz A rows) (hb:Below w.heap.size w w'):Sl w' lo hi sz A rows:=h.keep hb.size fun b _ _ h3=>hb.block b h3
theorem Sl.but {g:Nat} (h:Sl w lo hi sz A rows) (hb:w.grownBy w' (some g)) (hg:g < lo∨hi≤g):Sl w' lo hi sz A rows:=
 h.keep hb.size fun b h1 h2 h3=>hb.block b h3 (fun e=>by injection e;omega)
theorem Sl.drew (h:Sl w lo hi sz A rows):Sl w.drew lo hi sz A rows:=h
theorem Sl.alloc (h:Sl w lo hi sz A rows) (o:Obj):Sl (w.alloc o) lo hi sz A rows:=h.keep (by simp) fun b _ _ h3=>Below.heap_alloc w o b h3
theorem Sl.setCell (h:Sl w lo hi sz A rows) {p:Addr} (hp:p.block < lo∨hi≤p.block) (u:Value):Sl (w.setCell p u) lo hi sz A rows:=
 h.keep (by simp[World.setCell]) fun b h1 h2 _=>Below.heap_setCell w p u b (by omega)
theorem Sl.row {k:Nat} {r:List Value} (h:Sl w lo hi sz A rows) (hk:rows[k]?=some r) :
    ∃b off,A=some ⟨b,off,none⟩∧lo≤b∧b < hi∧b < w.heap.size∧∀j u,r[j]?=some u→w.cell? ⟨b,off+k*sz+j,none⟩=some u:=by
 obtain⟨b,off,e,a1,a2,a3,c⟩:=h (by rintro rfl;simp at hk)
 exact⟨b,off,e,a1,a2,a3,c k r hk⟩
end
def Own (w:World) (base:Nat) (e:TypeId) (sz:Nat) (v:Value) (rows:List (List Value)):Prop:=
 w.ownsRow base e sz v rows.length rows.flatten∧∀r∈rows,r.length=sz
theorem zc2 {sz:Nat}:∀(rows:List (List Value)),(∀r∈rows,r.length=sz)→∀(k:Nat) (r:List Value),rows[k]?=some r→∀(j:Nat) (u:Value),r[j]?=some u→rows.flatten[k*sz+j]?=some u
 | [],_,k,r,hk,_,_,_=>by simp at hk
 | x :: l,h,0,r,hk,j,u,hu=>by
  simp only[List.getElem?_cons_zero,Option.some.injEq] at hk
  subst hk
  have hj:j < x.length:=by
   rcases Nat.lt_or_ge j x.length with h|h
   ·exact h
   ·rw[List.getElem?_eq_none h] at hu;cases hu
  rw[List.flatten_cons,Nat.zero_mul,Nat.zero_add,List.getElem?_append_left hj];exact hu
 | x :: l,h,k+1,r,hk,j,u,hu=>by
  simp only[List.getElem?_cons_succ] at hk
  have hx:=h x (by simp)
  rw[List.flatten_cons,List.getElem?_append_right (by rw[hx,Nat.add_mul];omega)]
  have:=zc2 l (fun r hr=>h r (by simp[hr])) k r hk j u hu
  rw[show (k+1)*sz+j - x.length=k*sz+j from by rw[hx,Nat.add_mul];omega]
  exact this
section
variable {w w':World} {base:Nat} {e:TypeId} {sz:Nat} {v:Value} {rows:List (List Value)}
theorem Own.nil (w:World) (base:Nat) (e:TypeId) (sz:Nat):Own w base e sz (.slice none 0 0) []:=⟨World.ownsRow_nil w base e sz,fun _ h=>by cases h⟩
theorem Own.form (h:Own w base e sz v rows):∃A c,v = .slice A rows.length c∧rows.length≤c∧Sl w base w.heap.size sz A rows:=by
 obtain⟨⟨h1,h2⟩,h3⟩:=h
 rcases h2 with⟨rfl,hn⟩|⟨g,cap,cur,rfl,hb,hh,hnc,hcm,hcs,ht⟩
 ·have:rows = []:=List.eq_nil_of_length_eq_zero hn
  subst this
  exact⟨none,0,rfl,Nat.le_refl _,Sl.nil⟩
 ·refine⟨_,cap,rfl,hnc,fun hn=>⟨g,0,rfl,hb, ?_, ?_,fun k r hk j u hu=>?_⟩⟩
  ·exact Blk.lt (t:=e) (cs:=cur) hh
  ·exact Blk.lt (t:=e) (cs:=cur) hh
  ·have hf:=zc2 rows h3 k r hk j u hu
   rw[←ht] at hf
   have hlt:k*sz+j < rows.length*sz:=by
    rcases Nat.lt_or_ge (k*sz+j) (rows.length*sz) with h|h
    ·exact h
    ·rw[List.getElem?_eq_none (by rw[List.length_take];omega)] at hf;cases hf
   rw[List.getElem?_take_of_lt hlt,Array.getElem?_toList] at hf
   rw[show 0+k*sz+j=k*sz+j from by omega]
   rw[Blk.cell (t:=e) (cs:=cur) hh];exact hf
theorem Own.sl {A:Option Addr} {n c:Nat} (h:Own w base e sz (.slice A n c) rows):n=rows.length∧n≤c∧Sl w base w.heap.size sz A rows:=by
 obtain⟨A',c',hv,hc,hs⟩:=h.form
 injection hv with h1 h2 h3
 subst h1;subst h2;subst h3
 exact⟨rfl,hc,hs⟩
theorem Own.kept {row:Option Nat} (h:Own w base e sz v rows) (hg:w.grownBy w' row) (hne:v.ownBlock=none∨v.ownBlock≠row):Own w' base e sz v rows:=⟨h.1.kept hg hne,h.2⟩
theorem Own.grow (h:Own w base e sz v rows) (hb:Below w.heap.size w w'):Own w' base e sz v rows:=
 ⟨h.1.kept (row:=none) ⟨hb.os,hb.tape,hb.output,hb.size,fun k hk _=>hb.block k hk⟩ (by cases v.ownBlock <;> simp),h.2⟩
theorem Own.alloc (h:Own w base e sz v rows) (o:Obj):Own (w.alloc o) base e sz v rows:=⟨h.1.alloc o,h.2⟩
theorem Own.drew (h:Own w base e sz v rows):Own w.drew base e sz v rows:=h
theorem Own.lt (h:Own w base e sz v rows):∀k,v.ownBlock=some k→base≤k∧k < w.heap.size:=h.1.lt
theorem Own.setCell (h:Own w base e sz v rows) {p:Addr} (hp:v.ownBlock≠some p.block) (u:Value):Own (w.setCell p u) base e sz v rows:=by
 refine⟨⟨h.1.1, ?_⟩,h.2⟩
 rcases h.1.2 with h|⟨g,cap,cur,hv,hg,hh,r⟩
 ·exact .inl h
 ·refine .inr ⟨g,cap,cur,hv,hg, ?_,r⟩
  subst hv
  rw[Below.heap_setCell _ _ _ _ (fun e=>hp (by simp[Value.ownBlock,e]))];exact hh
theorem Own.far (h:Own w base e sz v rows) {p:Addr} (hp:p.block < base) (u:Value):Own (w.setCell p u) base e sz v rows:=
 h.setCell (fun e=>by have:=(h.lt _ e).1;omega) u
end
theorem grownBy_alloc {a w:World} {row:Option Nat} (h:a.grownBy w row) (o:Obj):a.grownBy (w.alloc o) row:=
 ⟨h.os,h.tape,h.output,Nat.le_trans h.size (by simp),fun i hi hne=>(Below.heap_alloc w o i (Nat.lt_of_lt_of_le hi h.size)).trans (h.block i hi hne)⟩
structure ElemTy (P:Program) (t e:TypeId) (sz:Nat):Prop where
 ht:P.underlying t=some (.slice e)
 hi:∃(i:TypeInfo) (z:Value),P.info? e=some i∧i.zero=some z∧i.size=sz∧i.bytes≤256∧z.cells.size=sz
 hsz:0 < sz
section
variable {P:Program} {w:World}
theorem zw10 {base:Nat} {t e ty:TypeId} {sz:Nat} (E:ElemTy P t e sz) {v:Value} {rows:List (List Value)} (hown:Own w base e sz v rows)
    {lo hi:Nat} {A:Option Addr} {m c:Nat} {news:List (List Value)} (hm:m=news.length) (hr:Sl w lo hi sz A news) (hl:∀r∈news,r.length=sz) (h1:∀r∈news,∀u∈r,u.oneCell'=true)
    (h63:rows.length+news.length≤1073741824) (hbase:base≤w.heap.size) :
    ∃v' w',(Builtin.append_ #[t,t] ty #[v,.slice A m c]).run P w = .ok v' w'∧Own w' base e sz v' (rows++news)∧w.grownBy w' v.ownBlock∧(v'.ownBlock=v.ownBlock∨v'.ownBlock=some w.heap.size):=by
 obtain⟨i,z,hi,hz,hs,hby,hzs⟩:=E.hi
 subst hm
 by_cases hn:news = []
 ·subst hn
  simp only[List.length_nil,List.append_nil]
  refine⟨v,w, ?_,hown,World.grownBy.refl w _,.inl rfl⟩
  rcases hown.1.2 with⟨rfl,h0⟩|⟨g,cap,cur,rfl,_,hh,hnc,_⟩
  ·cases A with
   | none=>simp[Builtin.append_,run_underlying E.ht,sizeOf,typeInfo,hi,Builtin.lenOf,Builtin.firstCells]
   | some a=>simp[Builtin.append_,run_underlying E.ht,sizeOf,typeInfo,hi,Builtin.lenOf,Builtin.firstCells,loadCells,loadCellsFrom]
  ·cases A with
   | none=>simp[Builtin.append_,run_underlying E.ht,sizeOf,typeInfo,hi,Builtin.lenOf,Builtin.firstCells,hnc,storeCells]
   | some a=>simp[Builtin.append_,run_underlying E.ht,sizeOf,typeInfo,hi,Builtin.lenOf,Builtin.firstCells,hnc,storeCells,loadCells,loadCellsFrom]
 ·obtain⟨b,off,rfl,_,_,_,hc⟩:=hr hn
  have hfl:news.flatten.length=news.length*sz:=by
   have:∀l:List (List Value),(∀r∈l,r.length=sz)→l.flatten.length=l.length*sz:=by
    intro l;induction l with
    | nil=>intro _;simp
    | cons x l ih=>intro h;rw[List.flatten_cons,List.length_append,ih (fun r hr=>h r (by simp[hr])),h x (by simp),List.length_cons,Nat.add_mul];omega
   exact this news hl
  obtain⟨v',w',hrun,h2,h3,_,h5⟩:=run_append_own_at (P:=P) w base t ty e i z sz i.bytes E.ht hi hz hs rfl hzs E.hsz v rows.length rows.flatten hown.1 ⟨b,off,none⟩ news.length c news.flatten hfl
   (fun j u hj=>by
    have hjl:j < news.length*sz:=by
     rcases Nat.lt_or_ge j (news.length*sz) with h|h
     ·exact h
     ·rw[List.getElem?_eq_none (by omega)] at hj;cases hj
    have hsz:=E.hsz
    have hk:j / sz < news.length:=Nat.div_lt_of_lt_mul (by rw[Nat.mul_comm];exact hjl)
    have hr0:news[j / sz]?=some news[j / sz]:=List.getElem?_eq_getElem hk
    have hjm:j % sz < sz:=Nat.mod_lt _ hsz
    have hrl:=hl _ (List.getElem_mem hk)
    have hu0:(news[j / sz])[j % sz]?=some ((news[j / sz])[j % sz]'(by omega)):=List.getElem?_eq_getElem (by omega)
    have hf:=zc2 news hl _ _ hr0 _ _ hu0
    have hdm:j / sz*sz+j % sz=j:=by rw[Nat.mul_comm];exact Nat.div_add_mod j sz
    rw[hdm,hj] at hf
    injection hf with hf
    have:=hc _ _ hr0 _ _ hu0
    rw[←hf] at this
    rw[Nat.add_assoc,hdm] at this
    unfold Addr.add
    split
    ·rename_i h0;subst h0;simpa using this
    ·exact this)
   (fun u hu=>by
    obtain⟨r,hr,hur⟩:=List.mem_flatten.1 hu
    exact h1 r hr u hur)
   (by simp only[maxLen];omega)
   (by
    have:(rows.length+news.length)*i.bytes≤1073741824*256:=Nat.mul_le_mul h63 hby
    omega)
   hbase
  refine⟨v',w',hrun,⟨?_,fun r hr=>?_⟩,h3,h5⟩
  ·rw[List.length_append,List.flatten_append];exact h2
  ·rcases List.mem_append.1 hr with h|h
   ·exact hown.2 r h
   ·exact hl r h
theorem Sl.lay {w':World} {g:Nat} {t:TypeId} {sz:Nat} {rows:List (List Value)} (h:Blk w' g t rows.flatten.toArray) (hl:∀r∈rows,r.length=sz):Sl w' g (g+1) sz (some ⟨g,0,none⟩) rows:=fun _=>by
 refine⟨g,0,rfl,Nat.le_refl _,by omega,h.lt,fun k r hk j u hu=>?_⟩
 rw[h.cell,show 0+k*sz+j=k*sz+j from by omega]
 have:=zc2 rows hl k r hk j u hu
 simpa using this
theorem Sl.one {w':World} {g:Nat} {t:TypeId} {sz:Nat} {r:List Value} (h:Blk w' g t r.toArray):Sl w' g (g+1) sz (some ⟨g,0,none⟩) [r]:=fun _=>by
 refine⟨g,0,rfl,Nat.le_refl _,by omega,h.lt,fun k r' hk j u hu=>?_⟩
 cases k with
 | zero=>
  simp only[List.getElem?_cons_zero,Option.some.injEq] at hk
  subst hk
  rw[h.cell]
  simpa using hu
 | succ k=>simp at hk
end
end Go.Proofs.YtophoepbedlhjaaGreatDoor
