/- The logic over values: the operations that only read. -/
import Derived.Test.YtophoepbedlhjaaGreatDoorQac
set_option linter.unusedSimpArgs false
set_option linter.unusedVariables false
namespace Go.Proofs.YtophoepbedlhjaaGreatDoor
section
open Go Go.RowKit
structure Ex (ρ:List (Option Nat)) (H:List OB) (ρ':List (Option Nat)) (H':List OB):Prop where
 at_:∀b,b < H.length→atB ρ' b=atB ρ b
 sz:∀b,b < H.length→szAt H' b=szAt H b
 cap:∀b,b < H.length→capAt H' b=capAt H b
 len:H.length≤H'.length
 bx:∀(b:Nat) (o:OB),H[b]?=some o→o.shp≠0→∃o',H'[b]?=some o'∧o'.shp=o.shp
theorem Ex.refl (ρ:List (Option Nat)) (H:List OB):Ex ρ H ρ H:=⟨fun _ _=>rfl,fun _ _=>rfl,fun _ _=>rfl,Nat.le_refl _,fun _ o h _=>⟨o,h,rfl⟩⟩
def Mo (w:World) (S:Nat→Prop) (w':World) (S':Nat→Prop):Prop:=∀b,S b→S' b∧w'.heap[b]?=w.heap[b]?
section
variable {w w':World} {S S':Nat→Prop} {ρ ρ':List (Option Nat)} {H H':List OB} {x:AV}
theorem WF.den_ex (h:WF w S ρ H x) (he:Ex ρ H ρ' H'):x.den ρ' H'=x.den ρ H:=by
 induction h with
 | c h=>rfl
 | p h0 h=>simp only[AV.den,he.at_ _ h0,he.sz _ h0]
 | o h0 h1 h2 h3=>simp only[AV.den,he.at_ _ h0,he.sz _ h0]
 | q h1 h2 h3=>rfl
 | a h ih=>simp only[AV.den,AV.denL_eq];rw[List.map_congr_left ih]
 | t h ih=>simp only[AV.den,AV.denL_eq];rw[List.map_congr_left ih]
 | f h ih=>simp only[AV.den,AV.denL_eq];rw[List.map_congr_left ih]
 | mp h0 h=>simp only[AV.den,he.at_ _ h0]
theorem WF.ex (h:WF w S ρ H x) (he:Ex ρ H ρ' H') (hm:Mo w S w' S'):WF w' S' ρ' H' x:=by
 induction h with
 | c h=>exact .c (h.mono hm)
 | p h0 h=>exact .p (Nat.lt_of_lt_of_le h0 he.len) (by rw[he.at_ _ h0];exact h)
 | o h0 h1 h2 h3=>exact .o (Nat.lt_of_lt_of_le h0 he.len) h1 (by rw[he.cap _ h0];exact h2) (by rw[he.at_ _ h0];exact h3)
 | q h1 h2 h3=>exact .q (hm _ h1).1 (fun i u hu=>by rw[World.cell?_of_block (w:=w) (hm _ h1).2];exact h2 i u hu) (fun u hu=>(h3 u hu).mono hm)
 | a h ih=>exact .a ih
 | t h ih=>exact .t ih
 | f h ih=>exact .f ih
 | mp h0 h=>exact .mp (Nat.lt_of_lt_of_le h0 he.len) (by rw[he.at_ _ h0];exact h)
theorem OwnB.pool_ex {ρ ρ':List (Option Nat)} {H H':List OB} {l:List PE} {m:Option Nat} (h:OwnB w S ρ H (.pool l) m) (hm:Mo w S w' S') (hT:∀k B,(OB.pool l).hasP k B→w'.heap[B]?=w.heap[B]?):OwnB w' S' ρ' H' (.pool l) m:=
 ⟨h.1,fun e he=>(h.2 e he).mono (fun u hu=>hu.mono hm) (fun B hB=>by
  obtain⟨k,hk⟩:=List.getElem?_of_mem he
  exact hT k B ⟨l,e,rfl,hk,hB⟩)⟩
theorem OwnB.ex {o:OB} {m:Option Nat} (h:OwnB w S ρ H o m) (he:Ex ρ H ρ' H') (hm:Mo w S w' S') (hB:∀B,m=some B→w'.heap[B]?=w.heap[B]?) (hT:∀k B,o.hasP k B→w'.heap[B]?=w.heap[B]?):OwnB w' S' ρ' H' o m:=by
 cases o with
 | pool l=>exact h.pool_ex hm hT
 | box l=>
  obtain⟨B,t,rfl,h1,h2⟩:=h
  refine⟨B,t,rfl, ?_,fun x hx=>⟨(h2 x hx).1.ex he hm,by rw[(h2 x hx).1.den_ex he];exact(h2 x hx).2⟩⟩
  rw[hB B rfl,h1,List.map_congr_left (fun x hx=>((h2 x hx).1.den_ex he).symm)]
 | arr e sz cap rows=>
  rcases h with h|⟨B,cs,rfl,h1,h2,hm2,h3,h4,h5⟩
  ·exact .inl h
  ·exact .inr ⟨B,cs,rfl,by rw[hB B rfl];exact h1,h2,hm2,h3,fun row hr=>⟨(h4 row hr).1,fun u hu=>⟨((h4 row hr).2 u hu).1.mono hm,((h4 row hr).2 u hu).2⟩⟩,h5⟩
 | dead=>trivial
 | eqv x v=>exact⟨by rw[h.2.den_ex he];exact h.1,h.2.ex he hm⟩
 | map es ck=>
  obtain⟨B,ms,rfl,h1,h2,h3⟩:=h
  exact⟨B,ms,rfl,by rw[hB B rfl];exact h1,h2,fun e he'=>(h3 e he').mono hm⟩
 | itr b since seen last=>
  obtain⟨B,rfl,h1,h2,h3⟩:=h
  exact⟨B,rfl,by rw[hB B rfl,he.at_ b h2];exact h1,Nat.lt_of_lt_of_le h2 he.len,by rw[he.at_ b h2];exact h3⟩
 | sit s pos=>
  obtain⟨B,rfl,h1⟩:=h
  exact⟨B,rfl,by rw[hB B rfl];exact h1⟩
 | boxt t l=>
  obtain⟨B,rfl,h1,h2⟩:=h
  refine⟨B,rfl, ?_,fun x hx=>⟨(h2 x hx).1.ex he hm,by rw[(h2 x hx).1.den_ex he];exact(h2 x hx).2⟩⟩
  rw[hB B rfl,h1,List.map_congr_left (fun x hx=>((h2 x hx).1.den_ex he).symm)]
 | bts v l=>
  obtain⟨B,cs,e,n,rfl,h1,h2,h3⟩:=h
  exact⟨B,cs,e,n,rfl,h1,by rw[hB B rfl];exact h2,h3⟩
end
section
variable {P:Program} {N:Nat} {E:Env} {S S':Nat→Prop} {ρ ρ':List (Option Nat)} {F:Fm} {H H':List OB} {a:Act} {w w':World}
theorem R.ex (h:R N E S ρ F H a w) (he:Ex ρ H ρ' H') (hm:Mo w S w' S') (hp:RH w' S' ρ' H') (st:Stp E.w0 w' E.W) (nw:∀i B,atB ρ' i=some B→(E.w0.heap.size≤B∨∃i k,inP E.H0 i k B)∨(i < E.H0.length∧atB E.r0 i=some B)) (nS:∀b,S' b→E.S0 b∨(E.w0.heap.size≤b∨∃i k,inP E.H0 i k b)) (pw:∀i k B,inP H' i k B→E.w0.heap.size≤B∨∃i k,inP E.H0 i k B) :
    R N E S' ρ' F H' a w':=
 ⟨h.df,h.sz,fun i x hx=>by
  obtain⟨h1,h2⟩:=h.fr i x hx
  exact⟨by rw[h2.den_ex he];exact h1,h2.ex he hm⟩,hp,st,nw,nS,pw,fun i hi=>by
  obtain⟨h1,h2⟩:=h.ln i hi
  refine⟨Nat.lt_of_lt_of_le h1 he.len,fun o ho hs=>?_⟩
  obtain⟨h3,o',h4,h5⟩:=h2 o ho hs
  obtain⟨o2,h6,h7⟩:=he.bx i o' h4 (by rw[h5];exact hs)
  exact⟨by rw[he.at_ i h1];exact h3,o2,h6,h7.trans h5⟩,fun hp i hi=>by
  have h1:=(h.ln i hi).1
  obtain⟨h2,h3,h4⟩:=h.pn hp i hi
  exact⟨by rw[he.at_ i h1];exact h2,by rw[he.sz i h1];exact h3,by rw[he.cap i h1];exact h4⟩⟩
theorem zJ4 {b B:Nat} (h:atB ρ b=some B):b < ρ.length:=by
 unfold atB at h
 rcases Nat.lt_or_ge b ρ.length with h'|h'
 ·exact h'
 ·rw[List.getElem?_eq_none h'] at h;cases h
theorem zr {b:Nat} {m:Option Nat}:atB (ρ++[m]) b=if b=ρ.length then m else atB ρ b:=by
 unfold atB
 by_cases h:b=ρ.length
 ·subst h;simp
 ·rw[if_neg h]
  rcases Nat.lt_or_ge b ρ.length with h'|h'
  ·rw[List.getElem?_append_left h']
  ·rw[List.getElem?_eq_none (by simp;omega),List.getElem?_eq_none h']
theorem Ex.snoc (hl:ρ.length=H.length) (m:Option Nat) (o:OB):Ex ρ H (ρ++[m]) (H++[o]):=by
 refine⟨fun b hb=>?_,fun b hb=>?_,fun b hb=>?_,by simp,fun b o hb _=>⟨o,by rw[List.getElem?_append_left (List.getElem?_eq_some_iff.1 hb).1];exact hb,rfl⟩⟩
 ·rw[zr,if_neg (by omega)]
 ·unfold szAt;rw[List.getElem?_append_left hb]
 ·unfold capAt;rw[List.getElem?_append_left hb]
theorem Mo.alloc (h:RH w S ρ H) (o:Obj):Mo w S (w.alloc o) S:=fun b hb=>⟨hb,Below.heap_alloc w o b (h.sS b hb)⟩
theorem Mo.refl:Mo w S w S:=fun _ hb=>⟨hb,rfl⟩
theorem OwnB.nopool {o:OB} {B:Nat} (h:OwnB w S ρ H o (some B)) {k b:Nat}:¬o.hasP k b:=fun hp=>by
 obtain⟨l,rfl⟩:=zp1 hp
 exact absurd h.1 (by simp)
theorem zr3 {o:OB} {i k B:Nat} (ho:∀k B,¬o.hasP k B) (h:inP (H++[o]) i k B):inP H i k B:=by
 obtain⟨o',h1,h2⟩:=h
 rw[List.getElem?_append] at h1
 split at h1
 ·exact⟨o',h1,h2⟩
 ·rw[List.getElem?_singleton] at h1
  split at h1
  ·injection h1 with h1;subst h1;exact absurd h2 (ho k B)
  ·cases h1
theorem zr6 {o:OB} {b i k B:Nat} (ho:∀k B,¬o.hasP k B) (h:inP (H.set b o) i k B):inP H i k B:=by
 obtain⟨o',h1,h2⟩:=h
 rw[List.getElem?_set] at h1
 split at h1
 ·split at h1
  ·injection h1 with h1;subst h1;exact absurd h2 (ho k B)
  ·cases h1
 ·exact⟨o',h1,h2⟩
theorem RH.newO (h:RH w S ρ H) (ob:Obj) (o:OB) (ho:OwnB (w.alloc ob) S (ρ++[some w.heap.size]) (H++[o]) o (some w.heap.size)):RH (w.alloc ob) S (ρ++[some w.heap.size]) (H++[o]):=by
 refine⟨by simp[h.len],fun i i' B hi hi'=>?_,fun i B hi hS=>?_,fun i B hi=>?_,fun b hb=>?_,fun i x hx=>?_,h.pl.mono (fun i k B=>zr3 fun k B=>ho.nopool) (fun B hB=>.inl hB) (fun j B hj=>?_) (by simp)⟩
 rotate_right
 ·rw[zr] at hj
  split at hj
  ·injection hj with hj;subst hj;exact .inr (Nat.le_refl _)
  ·exact .inl ⟨j,hj⟩
 ·rw[zr] at hi hi'
  split at hi <;> split at hi'
  ·omega
  ·injection hi with hi;subst hi;have:=h.lt _ _ hi';omega
  ·injection hi' with hi';subst hi';have:=h.lt _ _ hi;omega
  ·exact h.nd i i' B hi hi'
 ·rw[zr] at hi
  split at hi
  ·injection hi with hi;subst hi;have:=h.sS _ hS;omega
  ·exact h.ap i B hi hS
 ·rw[zr] at hi
  split at hi
  ·injection hi with hi;subst hi;simp
  ·have:=h.lt i B hi;simp;omega
 ·have:=h.sS b hb;simp;omega
 ·rw[zr]
  by_cases hi:i=ρ.length
  ·rw[if_pos hi]
   subst hi
   rw[h.len,List.getElem?_append_right (Nat.le_refl _)] at hx
   simp at hx
   subst hx
   exact ho
  ·rw[if_neg hi]
   have hlt:i < H.length:=by
    rcases Nat.lt_or_ge i H.length with h'|h'
    ·exact h'
    ·rw[List.getElem?_eq_none (by have:=h.len;simp;omega)] at hx;cases hx
   rw[List.getElem?_append_left hlt] at hx
   exact(h.blk i x hx).ex (Ex.snoc h.len _ _) (Mo.alloc h _) (fun B hB=>Below.heap_alloc w _ B (h.lt i B hB)) (fun k B hB=>Below.heap_alloc w _ B (h.pl.ps i k B ⟨x,hx,hB⟩).2.2)
theorem R.newO (h:R N E S ρ F H a w) (ob:Obj) (o:OB) (ho:OwnB (w.alloc ob) S (ρ++[some w.heap.size]) (H++[o]) o (some w.heap.size)) :
    R N E S (ρ++[some w.heap.size]) F (H++[o]) a (w.alloc ob):=
 h.ex (Ex.snoc h.hp.len _ _) (Mo.alloc h.hp _) (h.hp.newO ob o ho) (h.st.alloc _) (fun i B hi=>by
  rw[zr] at hi
  split at hi
  ·injection hi with hi;subst hi;exact .inl (.inl h.st.size)
  ·exact h.nw i B hi) h.nS (fun i k B hi=>h.pw i k B (zr3 (fun k B=>ho.nopool) hi))
theorem RH.new (h:RH w S ρ H) (cs:Array Value) (t:TypeId) (o:OB) (ho:OwnB (w.alloc (.cells cs t)) S (ρ++[some w.heap.size]) (H++[o]) o (some w.heap.size)):RH (w.alloc (.cells cs t)) S (ρ++[some w.heap.size]) (H++[o]):=h.newO _ o ho
theorem R.new (h:R N E S ρ F H a w) (cs:Array Value) (t:TypeId) (o:OB) (ho:OwnB (w.alloc (.cells cs t)) S (ρ++[some w.heap.size]) (H++[o]) o (some w.heap.size)) :
    R N E S (ρ++[some w.heap.size]) F (H++[o]) a (w.alloc (.cells cs t)):=h.newO _ o ho
theorem zq2 (w:World) (o:Obj):(w.alloc o).heap[w.heap.size]?=some o:=by
 show (w.heap.push o)[w.heap.size]?=some o
 simp
theorem OwnB.box_new (h:R N E S ρ F H a w) (l:List AV) (t:TypeId) (hl:∀x∈l,WF w S ρ H x∧(x.den ρ H).oneCell'=true) :
    OwnB (w.alloc (.cells (l.map (AV.den ρ H)).toArray t)) S (ρ++[some w.heap.size]) (H++[.box l]) (.box l) (some w.heap.size):=by
 have he:=Ex.snoc (ρ:=ρ) (H:=H) h.hp.len (some w.heap.size) (.box l)
 refine⟨_,t,rfl, ?_,fun x hx=>⟨(hl x hx).1.ex he (Mo.alloc h.hp _),by rw[(hl x hx).1.den_ex he];exact(hl x hx).2⟩⟩
 rw[zq2,List.map_congr_left (fun x hx=>((hl x hx).1.den_ex he).symm)]
def ldk (P:Program) (t:TypeId):Option (Option Nat):=
 match P.underlying t,P.info? t with
 | some (.struct _),some i=>some (some i.size)
 | some (.array _ _),some i=>some (some i.size)
 | some _,some i=>if i.size=1 then some none else none
 | _,_=>none
theorem zQ4 {t:TypeId} (h:ldk P t=some none):(isAgg t).run P w = .ok false w∧(sizeOf t).run P w = .ok 1 w:=by
 unfold ldk at h
 cases hu:P.underlying t with
 | none=>rw[hu] at h;simp at h
 | some d=>
  cases hi:P.info? t with
  | none=>rw[hu,hi] at h;cases d <;> simp at h
  | some i=>
   rw[hu,hi] at h
   have hs:i.size=1:=by cases d <;> simp at h <;> exact h
   have hu':(underlying t).run P w = .ok d w:=by unfold underlying;simp[hu]
   refine⟨?_,by simp[sizeOf,typeInfo,hi,hs]⟩
   unfold isAgg
   rw[Sem.run_bind,hu']
   cases d <;> simp at h ⊢
theorem zV1 {t:TypeId} {n:Nat} (h:ldk P t=some (some n)):(isAgg t).run P w = .ok true w∧(sizeOf t).run P w = .ok n w:=by
 unfold ldk at h
 cases hu:P.underlying t with
 | none=>rw[hu] at h;simp at h
 | some d=>
  cases hi:P.info? t with
  | none=>rw[hu,hi] at h;cases d <;> simp at h
  | some i=>
   rw[hu,hi] at h
   have hu':(underlying t).run P w = .ok d w:=by unfold underlying;simp[hu]
   have hs:i.size=n:=by cases d <;> simp at h <;> exact h
   refine⟨?_,by simp[sizeOf,typeInfo,hi,hs]⟩
   unfold isAgg
   rw[Sem.run_bind,hu']
   cases d <;> simp at h ⊢
inductive Cells (H:List OB):AV→List AV→Prop where
 | box {b j:Nat} {l:List AV} (h:H[b]?=some (.box l)):Cells H (.p b 0 j) (l.drop j)
 | boxt {b j:Nat} {t:TypeId} {l:List AV} (h:H[b]?=some (.boxt t l)):Cells H (.p b 0 j) (l.drop j)
 | arr {b k j sz cap:Nat} {e:TypeId} {rows:List (List CV)} {row:List CV} (h:H[b]?=some (.arr e sz cap rows)) (hk:rows[k]?=some row):Cells H (.p b k j) ((row.drop j).map .c)
 | q {v:Value} {k sz j:Nat} {row:List CV}:Cells H (.q v k sz row j) ((row.drop j).map .c)
 | pool {p k B j:Nat} {l:List PE} {row:List CV} (h:H[p]?=some (.pool l)) (hk:l[k]?=some (.bx (.pointer (some ⟨B,0,none⟩)) row)):Cells H (.c (.s (.pointer (some ⟨B,j,none⟩)))) ((row.drop j).map .c)
theorem R.cells {v:AV} {cs:List AV} (h:R N E S ρ F H a w) (hw:WF w S ρ H v) (hc:Cells H v cs):∃B off,v.den ρ H = .pointer (some ⟨B,off,none⟩) ∧
    ∀i x,cs[i]?=some x→w.cell? ⟨B,off+i,none⟩=some (x.den ρ H)∧WF w S ρ H x:=by
 cases hc with
 | @box b j l hb=>
  obtain⟨B,t,hm,h1,h2⟩:=h.hp.blk _ _ hb
  refine⟨B,j,by simp[AV.den,hm],fun i x hx=>?_⟩
  rw[List.getElem?_drop] at hx
  refine⟨?_,(h2 x (List.mem_of_getElem? hx)).1⟩
  unfold World.cell?
  rw[h1]
  simp[hx]
 | @boxt b j t l hb=>
  obtain⟨B,hm,h1,h2⟩:=h.hp.blk _ _ hb
  refine⟨B,j,by simp[AV.den,hm],fun i x hx=>?_⟩
  rw[List.getElem?_drop] at hx
  refine⟨?_,(h2 x (List.mem_of_getElem? hx)).1⟩
  unfold World.cell?
  rw[h1]
  simp[hx]
 | @arr b k j sz cap e rows row hb hk=>
  have hsz:szAt H b=sz:=by unfold szAt;rw[hb];rfl
  rcases h.hp.blk _ _ hb with⟨_,_,rfl⟩|⟨B,cs,hm,h1,h2,_,h3,h4,h5⟩
  ·simp at hk
  ·refine⟨B,k*sz+j,by simp[AV.den,hm,hsz],fun i x hx=>?_⟩
   rw[List.getElem?_map,List.getElem?_drop] at hx
   cases hu:row[j+i]? with
   | none=>rw[hu] at hx;cases hx
   | some u=>
    rw[hu] at hx
    simp only[Option.map_some,Option.some.injEq] at hx
    subst hx
    have:=h5 k (j+i) row u hk hu
    refine⟨?_,.c ((h4 row (List.mem_of_getElem? hk)).2 u (List.mem_of_getElem? hu)).1⟩
    unfold World.cell?
    rw[h1]
    simpa [Nat.add_assoc,AV.den] using this
 | @q v k sz j row=>
  cases hw with
  | @q B off n c _ _ _ _ h1 h2 h3=>
   refine⟨B,off+k*sz+j,rfl,fun i x hx=>?_⟩
   rw[List.getElem?_map,List.getElem?_drop] at hx
   cases hu:row[j+i]? with
   | none=>rw[hu] at hx;cases hx
   | some u=>
    rw[hu] at hx
    simp only[Option.map_some,Option.some.injEq] at hx
    subst hx
    have:=h2 (j+i) u hu
    exact⟨by rw[Nat.add_assoc];exact this,.c (h3 u (List.mem_of_getElem? hu))⟩
 | @pool p k B j l row hp hk=>
  obtain⟨_,hpe⟩:=h.hp.blk _ _ hp
  obtain⟨B',t,hv,h1,h2⟩:=hpe _ (List.mem_of_getElem? hk)
  obtain rfl:B=B':=by injection hv with hv;injection hv with hv;injection hv
  refine⟨B,j,rfl,fun i x hx=>?_⟩
  rw[List.getElem?_map,List.getElem?_drop] at hx
  cases hu:row[j+i]? with
  | none=>rw[hu] at hx;cases hx
  | some u=>
   rw[hu] at hx
   simp only[Option.map_some,Option.some.injEq] at hx
   subst hx
   refine⟨?_,.c (h2 u (List.mem_of_getElem? hu)).1⟩
   unfold World.cell?
   rw[h1]
   simp[hu,AV.den]
theorem zb1 {B off:Nat} {vs:List Value}:∀(n i:Nat) (acc:Array Value),(∀k,k < n→w.cell? ⟨B,off+(i+k),none⟩=vs[i+k]?)→i+n≤vs.length →
    (loadCellsFrom ⟨B,off,none⟩ i n acc).run P w = .ok (acc++((vs.drop i).take n).toArray) w
 | 0,i,acc,_,_=>by simp[loadCellsFrom]
 | n+1,i,acc,h,hl=>by
  have h0:=h 0 (by omega)
  have hlt:i < vs.length:=by omega
  rw[Nat.add_zero] at h0
  have hadd:(⟨B,off,none⟩:Addr).add i=⟨B,off+i,none⟩:=by
   unfold Addr.add;split
   ·rename_i h;subst h;rfl
   ·rfl
  unfold loadCellsFrom
  rw[Sem.run_bind,run_load,hadd,h0,List.getElem?_eq_getElem hlt]
  simp only[Result.andThen_ok]
  rw[zb1 n (i+1) _ (fun k hk=>by have:=h (k+1) (by omega);rw[show i+1+k=i+(k+1) from by omega];exact this) (by omega)]
  congr 1
  rw[List.drop_eq_getElem_cons hlt,List.take_succ_cons]
  simp
end
end
section
open Go Go.RowKit
section
variable {P:Program} {N:Nat} {E:Env} {F:Fm} {H:List OB} {o:Oper}
theorem zd3 {x:Operand} {v:AV} (ho:o.op = .move x) (hx:ev F x=some v):Rd P N E o F H v:=fun S ρ a w hR=>by
 obtain⟨h1,h2⟩:=hR.ev hx
 exact⟨by simp[execOp,ho,h1],h2⟩
theorem zN10 {x:Operand} {v:AV} (ho:o.op = .assign x) (hx:ev F x=some v):Rd P N E o F H v:=fun S ρ a w hR=>by
 obtain⟨h1,h2⟩:=hR.ev hx
 exact⟨by simp[execOp,ho,h1],h2⟩
theorem zH10 {c x y:Operand} {v:AV} (ho:o.op = .pick c x y) (hc:ev F c=some (.c (.s (.bool true)))) (hx:ev F x=some v):Rd P N E o F H v:=fun S ρ a w hR=>by
 obtain⟨h1,h2⟩:=hR.ev hx
 have h3:=(hR.ev hc).1
 simp only[AV.den,CV.den] at h3
 exact⟨by simp[execOp,ho,h1,h3,asBool],h2⟩
theorem zI10 {c x y:Operand} {v:AV} (ho:o.op = .pick c x y) (hc:ev F c=some (.c (.s (.bool false)))) (hy:ev F y=some v):Rd P N E o F H v:=fun S ρ a w hR=>by
 obtain⟨h1,h2⟩:=hR.ev hy
 have h3:=(hR.ev hc).1
 simp only[AV.den,CV.den] at h3
 exact⟨by simp[execOp,ho,h1,h3,asBool],h2⟩
theorem zg5 {t:TypeId} {x:Operand} {v y:AV} {cs:List AV} (ho:o.op = .load t x) (ht:ldk P t=some none) (hx:ev F x=some v) (hc:Cells H v (y :: cs)):Rd P N E o F H y:=fun S ρ a w hR=>by
 obtain⟨h1,h2⟩:=hR.ev hx
 obtain⟨B,off,hd,hcell⟩:=hR.cells h2 hc
 obtain⟨h3,h4⟩:=hcell 0 y rfl
 rw[Nat.add_zero] at h3
 refine⟨?_,h4⟩
 simp[execOp,ho,h1,hd,Instr.loadAt,Instr.sureAddr,loadVar,(zQ4 (w:=w) ht).1,h3]
theorem rd_loada {t:TypeId} {x:Operand} {v:AV} {cs:List AV} {n:Nat} (ho:o.op = .load t x) (ht:ldk P t=some (some n)) (hx:ev F x=some v) (hc:Cells H v cs) (hn:n≤cs.length):Rd P N E o F H (.a (cs.take n)):=fun S ρ a w hR=>by
 obtain⟨h1,h2⟩:=hR.ev hx
 obtain⟨B,off,hd,hcell⟩:=hR.cells h2 hc
 have hl:=zb1 (P:=P) (w:=w) (B:=B) (off:=off) (vs:=cs.map (AV.den ρ H)) n 0 #[] (fun k hk=>by
  have hkl:k < cs.length:=by omega
  rw[Nat.zero_add,(hcell k cs[k] (List.getElem?_eq_getElem hkl)).1]
  simp[hkl]) (by simpa using hn)
 refine⟨?_,.a (fun x hx=>?_)⟩
 ·simp only[execOp,ho,h1,hd,Instr.loadAt,Instr.sureAddr,loadVar,loadCells,Sem.run_bind,Sem.run_pure,Result.andThen_ok,(zV1 (w:=w) ht).1,(zV1 (w:=w) ht).2,hl,if_true,List.drop_zero,AV.den,AV.denL_eq,List.map_take]
  simp
 ·obtain⟨i,hi⟩:=List.getElem?_of_mem (List.mem_of_mem_take hx)
  exact(hcell i x hi).2
def fieldOff (P:Program) (t:TypeId) (f:Nat):Option Nat:=
 match P.underlying t with
 | some (.struct fs)=>match fs[f]? with
  | some g=>match P.info? g.type with
   | some i=>if i.size=0 then none else some g.offset
   | none=>none
  | none=>none
 | _=>none
theorem zh2 {t:TypeId} {f off j B:Nat} {w:World} (h:fieldOff P t f=some off):(Instr.fieldAt t (.pointer (some ⟨B,j,none⟩)) f).run P w = .ok (.pointer (some ⟨B,j+off,none⟩)) w:=by
 unfold fieldOff at h
 cases hu:P.underlying t with
 | none=>rw[hu] at h;cases h
 | some d=>
  rw[hu] at h
  cases d <;> simp at h
  rename_i fs
  cases hf:fs[f]? with
  | none=>rw[hf] at h;cases h
  | some g=>
   rw[hf] at h
   simp only at h
   cases hi:P.info? g.type with
   | none=>rw[hi] at h;cases h
   | some i=>
    rw[hi] at h
    simp only at h
    split at h
    ·cases h
    ·rename_i hs
     injection h with h
     have hu':(underlying t).run P w = .ok (.struct fs) w:=by unfold underlying;simp[hu]
     have hz:(sizeOf g.type).run P w = .ok i.size w:=by simp[sizeOf,typeInfo,hi]
     unfold Instr.fieldAt
     simp only[Sem.run_bind,hu',Result.andThen_ok,hf,Instr.sureAddr,Sem.run_pure,fieldPlace,hz,hs,if_false,h]
     unfold Addr.add
     split
     ·rename_i h0;subst h0;simp
     ·rfl
theorem rd_field {t:TypeId} {x:Operand} {f b k j off:Nat} (ho:o.op = .fieldAddr t x f) (hx:ev F x=some (.p b k j)) (ht:fieldOff P t f=some off):Rd P N E o F H (.p b k (j+off)):=fun S ρ a w hR=>by
 obtain⟨h1,h2⟩:=hR.ev hx
 cases h2 with
 | p h0 h=>
  obtain⟨B,hB⟩:=Option.isSome_iff_exists.1 h
  refine⟨?_,.p h0 h⟩
  simp[execOp,ho,h1,AV.den,hB,zh2 ht,Nat.add_assoc]
theorem zL10 {t:TypeId} {x:Operand} {f k sz j off:Nat} {v:Value} {row:List CV} (ho:o.op = .fieldAddr t x f) (hx:ev F x=some (.q v k sz row j)) (ht:fieldOff P t f=some off):Rd P N E o F H (.q v k sz row (j+off)):=fun S ρ a w hR=>by
 obtain⟨h1,h2⟩:=hR.ev hx
 cases h2 with
 | q g1 g2 g3=>
  refine⟨?_,.q g1 g2 g3⟩
  simp[execOp,ho,h1,AV.den,zh2 ht,Nat.add_assoc]
theorem rd_nilr {x:Operand} {ad:Addr} (ho:o.op = .nilCheck x) (hx:ev F x=some (.c (.s (.pointer (some ad))))):Rd P N E o F H (.c (.s (.pointer (some ad)))):=fun S ρ a w hR=>by
 obtain⟨h1,h2⟩:=hR.ev hx
 refine⟨?_,h2⟩
 simp[execOp,ho,h1,AV.den,CV.den]
theorem zK10 {t:TypeId} {x:Operand} {f j off B:Nat} (ho:o.op = .fieldAddr t x f) (hx:ev F x=some (.c (.s (.pointer (some ⟨B,j,none⟩))))) (ht:fieldOff P t f=some off):Rd P N E o F H (.c (.s (.pointer (some ⟨B,j+off,none⟩)))):=fun S ρ a w hR=>by
 obtain⟨h1,h2⟩:=hR.ev hx
 refine⟨?_,.c (.s _)⟩
 have:=zh2 (P:=P) (j:=j) (B:=B) (w:=w) ht
 simp[execOp,ho,h1,AV.den,CV.den,this]
def elemSz (P:Program) (t:TypeId):Option (TypeId × Nat):=
 match P.underlying t with
 | some (.slice e)=>match P.info? e with
  | some i=>some (e,i.size)
  | none=>none
 | _=>none
theorem zq {t e:TypeId} {sz:Nat} (h:elemSz P t=some (e,sz)):P.underlying t=some (.slice e)∧∃i,P.info? e=some i∧i.size=sz:=by
 unfold elemSz at h
 cases hu:P.underlying t with
 | none=>rw[hu] at h;cases h
 | some d=>
  rw[hu] at h
  cases d <;> simp at h
  rename_i e'
  cases hi:P.info? e' with
  | none=>rw[hi] at h;cases h
  | some i=>
   rw[hi] at h
   simp at h
   obtain⟨rfl,rfl⟩:=h
   exact⟨rfl,i,hi,rfl⟩
theorem zT2 {t e:TypeId} {sz B off n c i:Nat} {kd:IntKind} {w:World} (h:elemSz P t=some (e,sz)) (hi:i < n) :
    (Instr.indexAt t (.slice (some ⟨B,off,none⟩) n c) (.int kd i)).run P w = .ok (.pointer (some ⟨B,off+i*sz,none⟩)) w:=by
 obtain⟨hu,inf,hinf,hs⟩:=zq h
 have hu':(underlying t).run P w = .ok (.slice e) w:=by unfold underlying;simp[hu]
 have hz:(sizeOf e).run P w = .ok sz w:=by simp[sizeOf,typeInfo,hinf,hs]
 unfold Instr.indexAt
 simp only[asIntOf,Sem.run_bind,Sem.run_pure,hu',Result.andThen_ok,hz]
 rw[if_pos (by omega)]
 simp only[Sem.run_bind,hz,Result.andThen_ok,Sem.run_pure,Int.toNat_natCast]
 unfold Addr.add
 split
 ·rename_i h0;simp[h0]
 ·rfl
theorem zP4 {t e:TypeId} {x ix:Operand} {b k n c i sz cap:Nat} {kd:IntKind} {z:Int} {rows:List (List CV)} (ho:o.op = .indexAddr t x ix) (ht:elemSz P t=some (e,sz)) (hx:ev F x=some (.o b k n c)) (hH:H[b]?=some (.arr e sz cap rows)) (hix:ev F ix=some (.c (.s (.int kd z))))
    (hz:z=i) (hi:i < n):Rd P N E o F H (.p b (k+i) 0):=fun S ρ a w hR=>by
 obtain⟨h1,h2⟩:=hR.ev hx
 have h3:=(hR.ev hix).1
 simp only[AV.den,CV.den] at h3
 have hsz:szAt H b=sz:=by unfold szAt;rw[hH];rfl
 cases h2 with
 | o g0 g1 g2 g3=>
  cases hB:atB ρ b with
  | none=>have:=(g3 hB).1;omega
  | some B=>
   refine⟨?_,.p g0 (by rw[hB];rfl)⟩
   simp only[execOp,ho,h1,h3,AV.den,hB,Option.map_some,hsz,hz,Sem.run_bind,zT2 ht hi,Result.andThen_ok,Sem.run_pure,Nat.add_mul,Nat.add_zero]
theorem zh3 {t e:TypeId} {x ix:Operand} {i sz:Nat} {kd:IntKind} {z:Int} {v:Value} {rows:List (List CV)} {row:List CV} (ho:o.op = .indexAddr t x ix) (ht:elemSz P t=some (e,sz)) (hx:ev F x=some (.c (.r v rows))) (hix:ev F ix=some (.c (.s (.int kd z))))
    (hz:z=i) (hi:rows[i]?=some row) (hl:row.length=sz):Rd P N E o F H (.q v i sz row 0):=fun S ρ a w hR=>by
 obtain⟨h1,h2⟩:=hR.ev hx
 have h3:=(hR.ev hix).1
 simp only[AV.den,CV.den] at h1 h3
 cases h2 with
 | c g=>
  cases g with
  | nil=>simp at hi
  | r _ B off sz' n c hn hc hS hr hcell hg=>
   have hlt:i < n:=by rw[←hn];exact(List.getElem?_eq_some_iff.1 hi).1
   have hs:sz'=sz:=by rw[←hl,hr row (List.mem_of_getElem? hi)]
   subst hs
   refine⟨?_,.q hS (fun j u hu=>hcell i j row u hi hu) (fun u hu=>hg row (List.mem_of_getElem? hi) u hu)⟩
   simp only[execOp,ho,h1,h3,AV.den,hz,Sem.run_bind,zT2 ht hlt,Result.andThen_ok,Sem.run_pure,Nat.add_zero]
theorem ze4 {t ty e:TypeId} {A:Option Addr} {n c:Nat} {w:World} (hu:P.underlying t=some (.slice e)):(Builtin.len_ #[t] ty #[.slice A n c]).run P w = .ok (.int .i64 n) w:=by
 have hu':(underlying t).run P w = .ok (.slice e) w:=by unfold underlying;simp[hu]
 simp[Builtin.len_,hu',goInt]
theorem rd_len {t e:TypeId} {sz:Nat} {x:Operand} {b k n c:Nat} (ho:o.op = .call { callee:=.builtin .len,args:=#[x],argTypes:=#[t] }) (ht:elemSz P t=some (e,sz)) (hx:ev F x=some (.o b k n c)):Rd P N E o F H (.c (.s (.int .i64 n))):=fun S ρ a w hR=>by
 obtain⟨h1,h2⟩:=hR.ev hx
 refine⟨?_,.c (.s _)⟩
 simp[execOp,ho,resolve,invoke,builtin,h1,AV.den,CV.den,ze4 (zq ht).1]
theorem rd_lenr {t e:TypeId} {sz:Nat} {x:Operand} {v:Value} {rows:List (List CV)} (ho:o.op = .call { callee:=.builtin .len,args:=#[x],argTypes:=#[t] }) (ht:elemSz P t=some (e,sz)) (hx:ev F x=some (.c (.r v rows))):Rd P N E o F H (.c (.s (.int .i64 rows.length))):=fun S ρ a w hR=>by
 obtain⟨h1,h2⟩:=hR.ev hx
 refine⟨?_,.c (.s _)⟩
 have:∃A n c,v = .slice A n c∧rows.length=n:=by
  cases h2 with
  | c g=>cases g with
   | nil=>exact⟨_,_,_,rfl,rfl⟩
   | r _ B off sz' n c hn hc hS hr hcell hg=>exact⟨_,_,_,rfl,hn⟩
 obtain⟨A,n,c,rfl,hn⟩:=this
 simp[execOp,ho,resolve,invoke,builtin,h1,AV.den,CV.den,ze4 (zq ht).1,hn]
theorem rd_lens {t:TypeId} {x:Operand} {s:ByteArray} (ho:o.op = .call { callee:=.builtin .len,args:=#[x],argTypes:=#[t] }) (ht:P.underlying t=some .string) (hx:ev F x=some (.c (.s (.string s)))):Rd P N E o F H (.c (.s (.int .i64 s.size))):=fun S ρ a w hR=>by
 obtain⟨h1,h2⟩:=hR.ev hx
 refine⟨?_,.c (.s _)⟩
 have hu':(underlying t).run P w = .ok .string w:=by unfold underlying;simp[ht]
 simp[execOp,ho,resolve,invoke,builtin,h1,AV.den,CV.den,Builtin.len_,hu',goInt]
theorem zF9 {x:Operand} {i:Nat} {l:List AV} {v:AV} (ho:o.op = .extract x i) (hx:ev F x=some (.t l)) (hi:l[i]?=some v):Rd P N E o F H v:=fun S ρ a w hR=>by
 obtain⟨h1,h2⟩:=hR.ev hx
 cases h2 with
 | t g=>
  refine⟨?_,g v (List.mem_of_getElem? hi)⟩
  simp[execOp,ho,h1,AV.den,AV.denL_eq,Instr.extract,hi]
theorem zP8 {x:Operand} {b k j:Nat} (ho:o.op = .nilCheck x) (hx:ev F x=some (.p b k j)):Rd P N E o F H (.p b k j):=fun S ρ a w hR=>by
 obtain⟨h1,h2⟩:=hR.ev hx
 cases h2 with
 | p h0 h=>
  obtain⟨B,hB⟩:=Option.isSome_iff_exists.1 h
  refine⟨?_,.p h0 h⟩
  simp[execOp,ho,h1,AV.den,hB]
theorem zj6 {x:Operand} {k sz j:Nat} {v:Value} {row:List CV} (ho:o.op = .nilCheck x) (hx:ev F x=some (.q v k sz row j)):Rd P N E o F H (.q v k sz row j):=fun S ρ a w hR=>by
 obtain⟨h1,h2⟩:=hR.ev hx
 cases h2 with
 | q g1 g2 g3=>
  refine⟨?_,.q g1 g2 g3⟩
  simp[execOp,ho,h1,AV.den]
def ptS:Value→Value
 | .pointer a=>.slice a 1 1
 | v=>v
theorem rd_nilcp {x:Operand} {v:Value} {row:List CV} (ho:o.op = .nilCheck x) (hx:ev F x=some (.c (.p v row))):Rd P N E o F H (.c (.p v row)):=fun S ρ a w hR=>by
 obtain⟨h1,h2⟩:=hR.ev hx
 cases h2 with
 | c g=>
  refine⟨?_,.c g⟩
  cases g with
  | p row b off hS hcell hg=>simp[execOp,ho,h1,AV.den,CV.den]
theorem zE9 {t:TypeId} {x:Operand} {f off:Nat} {v:Value} {row:List CV} (ho:o.op = .fieldAddr t x f) (hx:ev F x=some (.c (.p v row))) (ht:fieldOff P t f=some off):Rd P N E o F H (.q (ptS v) 0 1 row off):=fun S ρ a w hR=>by
 obtain⟨h1,h2⟩:=hR.ev hx
 cases h2 with
 | c g=>
  cases g with
  | p row B o2 hS hcell hg=>
   refine⟨?_,.q hS (fun i u hu=>by rw[Nat.zero_mul,Nat.add_zero];exact hcell i u hu) hg⟩
   have:=zh2 (P:=P) (j:=o2) (B:=B) (w:=w) ht
   simp[execOp,ho,h1,AV.den,CV.den,ptS,this]
theorem zj2 {op:BinOp} {t yt:TypeId} {x y:Operand} {vx vy:AV} {dx dy r:Value} (ho:o.op = .binOp op t x y yt) (hx:ev F x=some vx) (hy:ev F y=some vy) (hdx:∀ρ H,vx.den ρ H=dx) (hdy:∀ρ H,vy.den ρ H=dy)
    (hop:∀w,(do eqGuard op t x y dx dy;binOp op t dx dy:Sem Value).run P w = .ok r w):Rd P N E o F H (.c (.s r)):=fun S ρ a w hR=>by
 have h1:=(hR.ev hx).1
 have h2:=(hR.ev hy).1
 rw[hdx] at h1
 rw[hdy] at h2
 refine⟨?_,.c (.s _)⟩
 have:=hop w
 simp only[execOp,ho,h1,h2]
 rw[Sem.run_bind,this]
 rfl
section
variable {t yt:TypeId} {x y:Operand} {m n:Int} {kd:IntKind}
theorem zg3 {op:BinOp} {r:Value} (ho:o.op = .binOp op t x y yt) (hx:ev F x=some (.c (.s (.int kd m)))) (hy:ev F y=some (.c (.s (.int kd n)))) (hne:op≠.shl∧op≠.shr) (h:∀w,(match op with
      | .add | .sub | .mul=>Op.intArith op kd m n
      | .quo | .rem=>Op.intDiv op kd m n
      | .and | .or | .xor | .andNot=>Op.intBits op kd m n
      | _=>Op.intCmp op m n:Sem Value).run P w = .ok r w):Rd P N E o F H (.c (.s r)):=
 zj2 ho hx hy (fun _ _=>rfl) (fun _ _=>rfl) fun w=>by
  have:=h w
  have hg:(eqGuard op t x y (.int kd m) (.int kd n)).run P w = .ok () w:=by unfold eqGuard;split <;> rfl
  rw[Sem.run_bind,hg]
  simp only[CV.den,Result.andThen_ok]
  unfold binOp
  cases op <;> simp_all
theorem rd_add (ho:o.op = .binOp .add t x y yt) (hx:ev F x=some (.c (.s (.int .i64 m)))) (hy:ev F y=some (.c (.s (.int .i64 n)))):Rd P N E o F H (.c (.s (.int .i64 (wrap64 (m+n))))):=
 zg3 ho hx hy (by simp) fun w=>by simp[Op.intArith,IntKind.wrap_i64,wrap64]
theorem rd_sub (ho:o.op = .binOp .sub t x y yt) (hx:ev F x=some (.c (.s (.int .i64 m)))) (hy:ev F y=some (.c (.s (.int .i64 n)))):Rd P N E o F H (.c (.s (.int .i64 (wrap64 (m - n))))):=
 zg3 ho hx hy (by simp) fun w=>by simp[Op.intArith,IntKind.wrap_i64,wrap64]
theorem rd_mul (ho:o.op = .binOp .mul t x y yt) (hx:ev F x=some (.c (.s (.int .i64 m)))) (hy:ev F y=some (.c (.s (.int .i64 n)))):Rd P N E o F H (.c (.s (.int .i64 (wrap64 (m*n))))):=
 zg3 ho hx hy (by simp) fun w=>by simp[Op.intArith,IntKind.wrap_i64,wrap64]
theorem rd_lss (ho:o.op = .binOp .lss t x y yt) (hx:ev F x=some (.c (.s (.int kd m)))) (hy:ev F y=some (.c (.s (.int kd n)))):Rd P N E o F H (.c (.s (.bool (decide (m < n))))):=
 zg3 ho hx hy (by simp) fun w=>by simp[Op.intCmp]
theorem rd_leq (ho:o.op = .binOp .leq t x y yt) (hx:ev F x=some (.c (.s (.int kd m)))) (hy:ev F y=some (.c (.s (.int kd n)))):Rd P N E o F H (.c (.s (.bool (decide (m≤n))))):=
 zg3 ho hx hy (by simp) fun w=>by simp[Op.intCmp]
theorem rd_gtr (ho:o.op = .binOp .gtr t x y yt) (hx:ev F x=some (.c (.s (.int kd m)))) (hy:ev F y=some (.c (.s (.int kd n)))):Rd P N E o F H (.c (.s (.bool (decide (n < m))))):=
 zg3 ho hx hy (by simp) fun w=>by simp[Op.intCmp]
theorem zJ10 (ho:o.op = .binOp .geq t x y yt) (hx:ev F x=some (.c (.s (.int kd m)))) (hy:ev F y=some (.c (.s (.int kd n)))):Rd P N E o F H (.c (.s (.bool (decide (n≤m))))):=
 zg3 ho hx hy (by simp) fun w=>by simp[Op.intCmp]
theorem rd_eql (ho:o.op = .binOp .eql t x y yt) (hx:ev F x=some (.c (.s (.int kd m)))) (hy:ev F y=some (.c (.s (.int kd n)))):Rd P N E o F H (.c (.s (.bool (decide (m=n))))):=
 zg3 ho hx hy (by simp) fun w=>by simp[Op.intCmp];rfl
theorem rd_neq (ho:o.op = .binOp .neq t x y yt) (hx:ev F x=some (.c (.s (.int kd m)))) (hy:ev F y=some (.c (.s (.int kd n)))):Rd P N E o F H (.c (.s (.bool (decide (m≠n))))):=
 zg3 ho hx hy (by simp) fun w=>by simp[Op.intCmp];rfl
theorem zG10 (ho:o.op = .binOp .quo t x y yt) (hx:ev F x=some (.c (.s (.int .i64 m)))) (hy:ev F y=some (.c (.s (.int .i64 n)))) (h0:n≠0):Rd P N E o F H (.c (.s (.int .i64 (wrap64 (m.tdiv n))))):=
 zg3 ho hx hy (by simp) fun w=>by simp[Op.intDiv,h0,IntKind.wrap_i64,wrap64]
theorem rd_rem (ho:o.op = .binOp .rem t x y yt) (hx:ev F x=some (.c (.s (.int .i64 m)))) (hy:ev F y=some (.c (.s (.int .i64 n)))) (h0:n≠0):Rd P N E o F H (.c (.s (.int .i64 (m.tmod n)))):=
 zg3 ho hx hy (by simp) fun w=>by simp[Op.intDiv,h0]
theorem rd_not {b:Bool} {ut:TypeId} (ho:o.op = .unOp .not ut x) (hx:ev F x=some (.c (.s (.bool b)))):Rd P N E o F H (.c (.s (.bool (!b)))):=fun S ρ a w hR=>by
 have h1:=(hR.ev hx).1
 simp only[AV.den,CV.den] at h1
 exact⟨by simp[execOp,ho,h1,Op.unary,AV.den,CV.den],.c (.s _)⟩
theorem rd_neg {ut:TypeId} (ho:o.op = .unOp .neg ut x) (hx:ev F x=some (.c (.s (.int .i64 m)))):Rd P N E o F H (.c (.s (.int .i64 (wrap64 (-m))))):=fun S ρ a w hR=>by
 have h1:=(hR.ev hx).1
 simp only[AV.den,CV.den] at h1
 exact⟨by simp[execOp,ho,h1,Op.unary,Op.intArith,AV.den,CV.den,IntKind.wrap_i64,wrap64],.c (.s _)⟩
end
end
end
end Go.Proofs.YtophoepbedlhjaaGreatDoor
