/- Maps in the logic: an entry is taken away. -/
import Derived.Test.YtfilfijammemfaaGreatDoorQal
import Derived.Test.YtfilfijammemfaaGreatDoorQbd
import Derived.Test.YtfilfijammemfaaGreatDoorQbe
import Derived.Test.YtfilfijammemfaaGreatDoorQau
import Derived.Test.YtfilfijammemfaaGreatDoorQba
set_option linter.unusedSimpArgs false
set_option linter.unusedVariables false
/- append to what is left of an array of the call's own, behind its first rows. -/
namespace Go.Proofs.YtfilfijammemfaaGreatDoor
open Go
theorem sl_cells {w : World} {lo hi sz : Nat} {A : Option Addr} {news : List (List Value)} (hr : Sl w lo hi sz A news) (hn : news ≠ []) (hl : ∀ r ∈ news, r.length = sz) (hsz : 0 < sz) : news.flatten.length = news.length * sz ∧ ∃ b off, A = some ⟨b, off, none⟩ ∧ ∀ j u, news.flatten[j]? = some u → w.cell? ((⟨b, off, none⟩ : Addr).add j) = some u := by
 obtain ⟨b, off, rfl, _, _, _, hc⟩ := hr hn
 have hfl : news.flatten.length = news.length * sz := by
  have : ∀ l : List (List Value), (∀ r ∈ l, r.length = sz) → l.flatten.length = l.length * sz := by
   intro l; induction l with
   | nil => intro _; simp
   | cons x l ih => intro h; rw [List.flatten_cons, List.length_append, ih (fun r hr => h r (by simp [hr])), h x (by simp), List.length_cons, Nat.add_mul]; omega
  exact this news hl
 refine ⟨hfl, b, off, rfl, fun j u hj => ?_⟩
 have hjl : j < news.length * sz := by
  rcases Nat.lt_or_ge j (news.length * sz) with h | h
  ·exact h
  ·rw [List.getElem?_eq_none (by omega)] at hj; cases hj
 have hk : j / sz < news.length := Nat.div_lt_of_lt_mul (by rw [Nat.mul_comm]; exact hjl)
 have hr0 : news[j / sz]? = some news[j / sz] := List.getElem?_eq_getElem hk
 have hjm : j % sz < sz := Nat.mod_lt _ hsz
 have hrl := hl _ (List.getElem_mem hk)
 have hu0 : (news[j / sz])[j % sz]? = some ((news[j / sz])[j % sz]'(by omega)) := List.getElem?_eq_getElem (by omega)
 have hf := flatten_at news hl _ _ hr0 _ _ hu0
 have hdm : j / sz * sz + j % sz = j := by rw [Nat.mul_comm]; exact Nat.div_add_mod j sz
 rw [hdm, hj] at hf
 injection hf with hf
 have := hc _ _ hr0 _ _ hu0
 rw [← hf] at this
 rw [Nat.add_assoc, hdm] at this
 unfold Addr.add
 split
 ·rename_i h0; subst h0; simpa using this
 ·exact this
section
variable {P : Program} {w : World}
theorem run_append_room_off (t ty e : TypeId) (i : TypeInfo) (ht : P.underlying t = some (.slice e)) (hi : P.info? e = some i)
    (g off sLen sCap : Nat) (cur : Array Value) (hg : w.heap[g]? = some (.cells cur e (0, 0)))
    (a : Addr) (m c : Nat) (news : List Value) (hl : news.length = m * i.size) (hnews : ∀ j u, news[j]? = some u → w.cell? (a.add j) = some u) (h1 : ∀ u ∈ news, u.oneCell' = true)
    (hroom : sLen + m ≤ sCap) (hfit : off + sLen * i.size + news.length ≤ cur.size) :
    (Builtin.append_ #[t, t] ty #[.slice (some ⟨g, off, none⟩) sLen sCap, .slice (some a) m c]).run P w =
     .ok (.slice (some ⟨g, off, none⟩) (sLen + m) sCap) (w.setRow g (cur.toList.take (off + sLen * i.size) ++ news ++ cur.toList.drop (off + sLen * i.size + news.length)).toArray) := by
 have hf := run_firstCells_some (P := P) w i.size m a m c news hl hnews
 have hst := run_storeCells_at P g (off + sLen * i.size) e news 0 cur w hg (by simpa using hfit) h1
 simp only [Nat.add_zero] at hst
 simp [Builtin.append_, run_underlying ht, sizeOf, typeInfo, hi, Builtin.lenOf, hroom, hf, Addr.add_lit, hst]
end
section
variable {P : Program} {N : Nat} {E : Env} {S : Nat → Prop} {ρ : List (Option Nat)} {F : Fm} {H : List OB} {a : Act} {w : World} {o : Oper}
theorem R.rearr {b : Nat} {e : TypeId} {sz cap cap' : Nat} {rows rows' : List (List CV)} (hR : R N E S ρ F H a w) (hH : H[b]? = some (.arr e sz cap rows)) {m' : Option Nat} {w' : World} (hg : w.grownBy w' (atB ρ b)) (hdr : w.drawn ≤ w'.drawn) (hat : m' = atB ρ b ∨ (m' = some w.heap.size ∧ w.heap.size < w'.heap.size))
    (hob : ∀ ρ' H', OwnB w' S ρ' H' (.arr e sz cap' rows') m') (hpin : (∃ q, E.H0.length = q ∧ Nat.ble q b = true) ∨ E.pin = false) : R N E S (ρ.set b m') (killF (AV.den ρ H) [b] F) ((H.map (killO (AV.den ρ H) [b])).set b (.arr e sz cap' rows')) a w' := by
 have hblt : b < H.length := (List.getElem?_eq_some_iff.1 hH).1
 have he : ExB [b] ρ H (ρ.set b m') ((H.map (killO (AV.den ρ H) [b])).set b (.arr e sz cap' rows')) := by
  refine ⟨fun i hi hne => ?_, fun i hi hne => ?_, fun i hi hne => ?_, by simp⟩
  all_goals replace hne : i ≠ b := by simpa using hne
  ·unfold atB; rw [List.getElem?_set_ne (Ne.symm hne)]
  ·unfold szAt; rw [List.getElem?_set_ne (Ne.symm hne), List.getElem?_map, List.getElem?_eq_getElem hi]; simp [killO_sz]
  ·unfold capAt; rw [List.getElem?_set_ne (Ne.symm hne), List.getElem?_map, List.getElem?_eq_getElem hi]; simp [killO_cap]
 have hm : Mo w S w' S := fun k hk => ⟨hk, hg.block k (hR.hp.sS k hk) (fun e => hR.hp.ap b k e.symm hk)⟩
 have hin : ∀ i k B, inP ((H.map (killO (AV.den ρ H) [b])).set b (.arr e sz cap' rows')) i k B → inP H i k B := fun i k B hi => inP_kill (inP_set (fun _ _ => arr_nopool) hi)
 have hatb : ∀ i, atB (ρ.set b m') i = if i = b then m' else atB ρ i := fun i => by
  unfold atB
  rw [List.getElem?_set]
  by_cases hi : b = i
  ·subst hi; simp [hR.hp.len, hblt]
  ·simp [hi, Ne.symm hi]
 have hsub : ∀ i B, atB (ρ.set b m') i = some B → (atB ρ i = some B) ∨ (i = b ∧ B = w.heap.size ∧ w.heap.size < w'.heap.size) := fun i B hi => by
  rw [hatb] at hi
  by_cases hib : i = b
  ·subst hib
   rw [if_pos rfl] at hi
   rcases hat with h | ⟨h, hlt⟩
   ·exact .inl (h ▸ hi)
   ·refine .inr ⟨rfl, ?_, hlt⟩
    rw [hi] at h; injection h
  ·rw [if_neg hib] at hi; exact .inl hi
 refine ⟨hR.df, hR.sz, fun i y hy => ?_, ⟨by simpa using hR.hp.len, fun i i' B hi hi' => ?_, fun i B hi hS => ?_, fun i B hi => ?_, fun k hk => Nat.lt_of_lt_of_le (hR.hp.sS k hk) hg.size, fun i y hy => ?_, hR.hp.pl.mono hin (fun B hB => .inl hB) (fun j B hj => ?_) hg.size⟩, ?_, fun i B hi => ?_, hR.nS, fun i k B hi => hR.pw i k B (hin i k B hi), fun i hi => ?_, fun hpp i hi => ?_⟩
 rotate_left 5
 ·rcases hsub j B hj with h | ⟨_, h, _⟩
  ·exact .inl ⟨j, h⟩
  ·exact .inr (by omega)
 rotate_right 5
 ·obtain ⟨y', h1, rfl⟩ := lookup_killF hy
  obtain ⟨h2, h3⟩ := hR.fr i y' h1
  obtain ⟨h4, h5⟩ := h3.killed he hm
  exact ⟨by rw [h4]; exact h2, h5⟩
 ·rcases hsub i B hi with h | ⟨h, h1, _⟩ <;> rcases hsub i' B hi' with h' | ⟨h', h1', _⟩
  ·exact hR.hp.nd i i' B h h'
  ·have := hR.hp.lt i B h; omega
  ·have := hR.hp.lt i' B h'; omega
  ·omega
 ·rcases hsub i B hi with h | ⟨h, h1, _⟩
  ·exact hR.hp.ap i B h hS
  ·have := hR.hp.sS B hS; omega
 ·rcases hsub i B hi with h | ⟨h, h1, h2⟩
  ·exact Nat.lt_of_lt_of_le (hR.hp.lt i B h) hg.size
  ·omega
 ·rw [List.getElem?_set] at hy
  split at hy
  ·rename_i hbi
   subst hbi
   split at hy
   ·injection hy with hy
    subst hy
    rw [hatb, if_pos rfl]
    exact hob _ _
   ·cases hy
  ·rename_i hbi
   rw [List.getElem?_map] at hy
   cases hz : H[i]? with
   | none => rw [hz] at hy; cases hy
   | some ob =>
    rw [hz] at hy
    simp only [Option.map_some, Option.some.injEq] at hy
    subst hy
    rw [hatb, if_neg (Ne.symm hbi)]
    exact (hR.hp.blk i ob hz).killed he hm (fun B hB => hg.block B (hR.hp.lt i B hB) (fun e => hbi (hR.hp.nd _ _ _ e.symm hB))) (fun k B hB => by
     obtain ⟨_, q2, q3⟩ := hR.hp.pl.ps i k B ⟨ob, hz, hB⟩
     exact hg.block B q3 (fun e => q2 b e.symm))
 ·refine hR.st.trans (T := fun k => atB ρ b = some k) ⟨hg.os, hg.tape, hg.output, hg.size, fun k hk hne => hg.block k hk (fun e => hne e.symm), hdr⟩ (fun k hk hT => ?_)
  rcases hR.nw b k hT with (h | h) | h
  ·omega
  ·exact .inr h
  ·exact .inl ⟨_, h.2⟩
 ·rcases hsub i B hi with h | ⟨h, h1, h2⟩
  ·exact hR.nw i B h
  ·exact .inl (.inl (by rw [h1]; exact hR.st.size))
 ·obtain ⟨h1, h2⟩ := hR.ln i hi
  refine ⟨by simpa using h1, fun o ho hs => ?_⟩
  obtain ⟨h3, o', h4, h5⟩ := h2 o ho hs
  have hne : i ≠ b := fun e => by rw [e, hH] at h4; injection h4 with h4; subst h4; exact hs h5.symm
  exact ⟨by rw [hatb, if_neg hne]; exact h3, killO (AV.den ρ H) [b] o', by rw [List.getElem?_set_ne (Ne.symm hne), List.getElem?_map, h4]; rfl, by rw [killO_shp]; exact h5⟩
 ·have hne : i ≠ b := fun e => by
   rcases hpin with ⟨q, h1, h2⟩ | h1
   ·have := Nat.le_of_ble_eq_true h2; omega
   ·rw [h1] at hpp; cases hpp
  have hil := (hR.ln i hi).1
  obtain ⟨h1, h2, h3⟩ := hR.pn hpp i hi
  exact ⟨by rw [hatb, if_neg hne]; exact h1, by rw [he.sz i hil (by simpa using hne)]; exact h2, by rw [he.cap i hil (by simpa using hne)]; exact h3⟩
theorem ef_appk {t e : TypeId} {sz d b k n c cap : Nat} {s x : Operand} {v : AV} {rows news : List (List CV)} (ho : o.op = .call { callee := .builtin .append, args := #[s, x], argTypes := #[t, t] }) (hd : o.dst = some d) (hN : d < N) (hE : ElemTy P t e sz)
    (hs : ev F s = some (.o b k n c)) (hH : H[b]? = some (.arr e sz cap rows)) (hn : k + n ≤ rows.length) (hcn : k + n = rows.length ∨ c < n + news.length) (hne : rows ≠ []) (hx : ev F x = some v) (hsrc : Src H sz v news) (hnn : news ≠ []) (hle : n + news.length ≤ 1073741824) (hpin : (∃ q, E.H0.length = q ∧ Nat.ble q b = true) ∨ E.pin = false := by first | exact Or.inl ⟨_, by assumption, rfl⟩ | exact Or.inr (by assumption)) :
    Ef P N E o F H fun F' H' => ∃ g c2 cap2 pre, n + news.length ≤ c2 ∧ F' = (d, .o b pre.length (n + news.length) c2) :: killF g [b] F ∧ H' = (H.map (killO g [b])).set b (.arr e sz cap2 (pre ++ (rows.drop k).take n ++ news)) := fun S ρ a w hR => by
 obtain ⟨g1, g2⟩ := hR.ev hs
 obtain ⟨g3, g4⟩ := hR.ev hx
 obtain ⟨A, cx, hv, hsl, hnews⟩ := hR.src g4 hsrc
 have hnv : toV news ≠ [] := by intro h; exact hnn (List.map_eq_nil_iff.1 h)
 have hnl : ∀ r ∈ toV news, r.length = sz := toV_len fun row hr => (hnews row hr).1
 obtain ⟨hfl, ab, aoff, rfl, hcl⟩ := sl_cells hsl hnv hnl hE.hsz
 have h1c : ∀ u ∈ (toV news).flatten, u.oneCell' = true := fun u hu => by
  obtain ⟨r, hr, hur⟩ := List.mem_flatten.1 hu
  obtain ⟨row, hrow, rfl⟩ := List.mem_map.1 hr
  obtain ⟨y, hy, rfl⟩ := List.mem_map.1 hur
  exact ((hnews row hrow).2 y hy).2
 have hnvl : (toV news).length = news.length := by simp [toV]
 rw [hnvl] at hfl
 have hblt : b < H.length := (List.getElem?_eq_some_iff.1 hH).1
 have hszA : szAt H b = sz := by unfold szAt; rw [hH]; rfl
 have hcapA : capAt H b = cap := by unfold capAt; rw [hH]; rfl
 obtain ⟨inf, z, hi, hz, hsz, hby, hzs⟩ := hE.hi
 rcases hR.hp.blk _ _ hH with ⟨_, _, rfl⟩ | ⟨B, cs, hB, hh, hcs, hmx, hrl, hrow, hcell⟩
 ·exact absurd rfl hne
 have hkc : n ≤ c ∧ k + c ≤ cap := by
  cases g2 with
  | o _ h1 h2 _ => exact ⟨h1, by rw [hcapA] at h2; exact h2⟩
 have hrl2 : ∀ row ∈ rows, row.length = sz := fun row hr => (hrow row hr).1
 have hden : (AV.o b k n c).den ρ H = .slice (some ⟨B, k * sz, none⟩) n c := by rw [AV.den, hB, hszA]; rfl
 have hg1 : ∀ w' m', ((execOp a.eval o).run P w = .ok (.value m') w') = ((Builtin.append_ #[t, t] o.type #[.slice (some ⟨B, k * sz, none⟩) n c, .slice (some ⟨ab, aoff, none⟩) news.length cx]).run P w = .ok m' w') → True := fun _ _ _ => trivial
 clear hg1
 have hgood : ∀ w', w.grownBy w' (atB ρ b) → Mo w S w' S := fun w' hg k hk => ⟨hk, hg.block k (hR.hp.sS k hk) (fun e => hR.hp.ap b k e.symm hk)⟩
 have hall : ∀ pre, (∀ row ∈ pre, row ∈ rows) → ∀ row ∈ pre ++ (rows.drop k).take n ++ news, row.length = sz ∧ ∀ u ∈ row, Good w S u ∧ u.den.oneCell' = true := fun pre hp row hr => by
  rcases List.mem_append.1 hr with hr | hr
  ·rcases List.mem_append.1 hr with hr | hr
   ·exact hrow row (hp row hr)
   ·exact hrow row (List.mem_of_mem_drop (List.mem_of_mem_take hr))
  ·exact hnews row hr
 have hflen : ∀ l : List (List CV), (∀ row ∈ l, row.length = sz) → (toV l).flatten.length = l.length * sz := fun l => by
  induction l with
  | nil => intro _; simp [toV]
  | cons x l ih => intro h; rw [show toV (x :: l) = x.map CV.den :: toV l from rfl, List.flatten_cons, List.length_append, ih (fun r hr => h r (by simp [hr])), List.length_map, h x (by simp), List.length_cons, Nat.add_mul]; omega
 have happ : ∀ l m : List (List CV), (toV (l ++ m)).flatten = (toV l).flatten ++ (toV m).flatten := fun l m => by simp [toV]
 unfold effO
 by_cases hroom : n + news.length ≤ c
 ·have hn : k + n = rows.length := by omega
  have hdt : (rows.drop k).take n = rows.drop k := List.take_of_length_le (by rw [List.length_drop]; omega)
  rw [hdt] at hall ⊢
  have hfit : k * sz + n * inf.size + (toV news).flatten.length ≤ cs.size := by
   rw [hfl, hsz, hcs, ← Nat.add_mul, ← Nat.add_mul]
   exact Nat.mul_le_mul_right _ (by omega)
  have hrun := run_append_room_off (P := P) (w := w) t o.type e inf hE.ht hi B (k * sz) n c cs hh ⟨ab, aoff, none⟩ news.length cx (toV news).flatten (by rw [hfl, hsz]) hcl h1c hroom hfit
  have hex : (execOp a.eval o).run P w = .ok (.value (.slice (some ⟨B, k * sz, none⟩) (n + news.length) c)) (w.setRow B (cs.toList.take (k * sz + n * inf.size) ++ (toV news).flatten ++ cs.toList.drop (k * sz + n * inf.size + (toV news).flatten.length)).toArray) := by
   unfold execOp
   simp only [ho, resolve, invoke, builtin, Sem.run_bind, Sem.run_pure, Result.andThen_ok, List.map_toArray, List.map_cons, List.map_nil, g1, g3, hv, hden, hrun]
  rw [hex]
  have htk : cs.toList.take (k * sz + n * inf.size) = (toV rows).flatten := by
   have := flatten_den (cs := cs) rows 0 hrl2 (by rw [Nat.zero_add, hcs]; exact Nat.mul_le_mul_right _ hrl) (fun k j row u hk hj => by rw [Nat.zero_add]; exact hcell k j row u hk hj)
   rw [Nat.zero_mul, List.drop_zero] at this
   rw [← this, hsz, ← Nat.add_mul, hn]
  rw [htk] at hrun ⊢
  have hgr : ∀ X, w.grownBy (w.setRow B X) (atB ρ b) := fun X => ⟨rfl, rfl, rfl, by simp, fun k _ hk => setRow_other w B k _ (fun e => hk (by rw [hB, e]))⟩
  refine ⟨S, ρ.set b (some B), _, _, ⟨AV.den ρ H, c, cap, rows.take k, hroom, rfl, rfl⟩, ?_⟩
  rw [hd]
  have hR' := hR.rearr (cap' := cap) (rows' := rows.take k ++ rows.drop k ++ news) (m' := some B) hH (hgr ((toV rows).flatten ++ (toV news).flatten ++ cs.toList.drop (k * sz + n * inf.size + (toV news).flatten.length)).toArray) (run_drawn _ _ hrun) (.inl hB.symm) (fun ρ' H' => by
   refine .inr ⟨B, _, rfl, setRow_heap w B cs _ e _ hh, ?_, hmx, by rw [List.take_append_drop, List.length_append]; omega, fun row hr => ⟨(hall _ (fun r h => List.mem_of_mem_take h) row hr).1, fun u hu => ⟨((hall _ (fun r h => List.mem_of_mem_take h) row hr).2 u hu).1.mono (hgood _ (hgr _)), ((hall _ (fun r h => List.mem_of_mem_take h) row hr).2 u hu).2⟩⟩, fun k' j row u hk hj => ?_⟩
   ·have e9 : (toV rows).flatten.length = k * sz + n * sz := by rw [hflen rows hrl2, ← hn, Nat.add_mul]
    have e10 := hfit
    rw [hsz] at e10
    simp only [List.size_toArray, List.length_append, List.length_drop, Array.length_toList]
    rw [e9, hsz]
    omega
   ·rw [List.take_append_drop] at hk
    have h7 := flatten_back (rows ++ news) (fun row hr => (hall (rows.take k) (fun r h => List.mem_of_mem_take h) row (by rw [List.take_append_drop]; exact hr)).1) (xs := (toV (rows ++ news)).flatten) rfl k' j row u hk hj
    rw [List.getElem?_toArray, ← happ, List.getElem?_append_left (List.getElem?_eq_some_iff.1 h7).1]
    exact h7) hpin
  have hfin := hR'.put (d := d) (x := .o b (rows.take k).length (n + news.length) c) hN (.o (by simpa using hblt) hroom (by
   simp only [capAt, List.length_map, hblt, List.getElem?_set_self, OB.cap, List.length_take]
   omega) (fun h => by
   unfold atB at h
   rw [List.getElem?_set_self (by rw [hR.hp.len]; exact hblt)] at h
   cases h))
  have hdv : (AV.o b (rows.take k).length (n + news.length) c).den (ρ.set b (some B)) ((H.map (killO (AV.den ρ H) [b])).set b (.arr e sz cap (rows.take k ++ rows.drop k ++ news))) = .slice (some ⟨B, k * sz, none⟩) (n + news.length) c := by
   have h1 : atB (ρ.set b (some B)) b = some B := by unfold atB; rw [List.getElem?_set_self (by rw [hR.hp.len]; exact hblt)]
   have h2 : szAt ((H.map (killO (AV.den ρ H) [b])).set b (.arr e sz cap (rows.take k ++ rows.drop k ++ news))) b = sz := by unfold szAt; rw [List.getElem?_set_self (by simpa using hblt)]; rfl
   rw [AV.den, h1, h2, List.length_take, Nat.min_eq_left (by omega)]; rfl
  rw [hdv] at hfin
  exact hfin
 ·have hol : ∀ row ∈ (rows.drop k).take n, row.length = sz := fun row hr => hrl2 row (List.mem_of_mem_drop (List.mem_of_mem_take hr))
  have hdl : ((rows.drop k).take n).length = n := by rw [List.length_take, List.length_drop]; omega
  have hDc : ∀ (k' j : Nat) (row : List CV) (u : CV), ((rows.drop k).take n)[k']? = some row → row[j]? = some u → cs[(k + k') * sz + j]? = some u.den := fun k' j row u hk hj => by
   rw [List.getElem?_take] at hk
   split at hk
   ·rw [List.getElem?_drop] at hk; exact hcell (k + k') j row u hk hj
   ·cases hk
  generalize (rows.drop k).take n = D at *
  have hof : (cs.toList.drop (k * sz)).take (n * sz) = (toV D).flatten := by
   have := flatten_den (cs := cs) D k hol (by rw [hdl, hcs]; exact Nat.mul_le_mul_right _ (by omega)) hDc
   rw [hdl] at this
   exact this
  have holds : ∀ j u, (toV D).flatten[j]? = some u → w.cell? ((⟨B, k * sz, none⟩ : Addr).add j) = some u := fun j u hj => by
   rw [← hof, List.getElem?_take] at hj
   split at hj
   ·rw [List.getElem?_drop] at hj
    rw [Addr.add_lit]
    rw [cell_of_row w B _ cs e (0, 0) hh]
    simpa using hj
   ·cases hj
  have hlen := hflen _ hol
  rw [hdl] at hlen
  have hrun := run_append_grow (P := P) w t o.type e inf z hE.ht hi hz ⟨B, k * sz, none⟩ n c (toV D).flatten (by rw [hlen, hsz]) holds ⟨ab, aoff, none⟩ news.length cx (toV news).flatten (by rw [hfl, hsz]) hcl (by omega) (by omega) (growslice_fits (by omega) (by
   have : (n + news.length) * inf.bytes ≤ 1073741824 * 256 := Nat.mul_le_mul hle hby
   omega))
  have hge := grownCap_ge w (n + news.length) c e
  have hcm : grownCap w (n + news.length) c e ≤ maxLen := grownCap_le_maxLen w (n + news.length) c e (by simp only [maxLen]; omega)
  generalize grownCap w (n + news.length) c e = c2 at hrun hge hcm
  have hex : (execOp a.eval o).run P w = .ok (.value (.slice (some ⟨w.heap.size, 0, none⟩) (n + news.length) c2)) (w.drew.alloc (.cells ((toV D).flatten.toArray ++ (toV news).flatten.toArray ++ Builtin.zeroCells z.cells (c2 - (n + news.length))) e)) := by
   unfold execOp
   simp only [ho, resolve, invoke, builtin, Sem.run_bind, Sem.run_pure, Result.andThen_ok, List.map_toArray, List.map_cons, List.map_nil, g1, g3, hv, hden, hrun]
  rw [hex]
  have hgr : ∀ X, w.grownBy (w.drew.alloc X) (atB ρ b) := fun X => ⟨rfl, rfl, rfl, by simp, fun k hk _ => heap_alloc_old w.drew _ hk⟩
  refine ⟨S, ρ.set b (some w.heap.size), _, _, ⟨AV.den ρ H, c2, c2, [], hge, rfl, rfl⟩, ?_⟩
  rw [hd]
  have hR' := hR.rearr (cap' := c2) (rows' := [] ++ D ++ news) (m' := some w.heap.size) hH (hgr (.cells ((toV D).flatten.toArray ++ (toV news).flatten.toArray ++ Builtin.zeroCells z.cells (c2 - (n + news.length))) e)) (run_drawn _ _ hrun) (.inr ⟨rfl, by simp⟩) (fun ρ' H' => by
   refine .inr ⟨w.heap.size, _, rfl, heap_alloc_new w.drew _, ?_, hcm, by rw [List.nil_append, List.length_append, hdl]; omega, fun row hr => ⟨(hall [] (fun r h => by cases h) row hr).1, fun u hu => ⟨((hall [] (fun r h => by cases h) row hr).2 u hu).1.mono (hgood _ (hgr _)), ((hall [] (fun r h => by cases h) row hr).2 u hu).2⟩⟩, fun k' j row u hk hj => ?_⟩
   ·simp only [Array.size_append, List.size_toArray, size_zeroCells, hzs, hlen, hfl, ← Nat.add_mul]
    congr 1
    omega
   ·rw [List.nil_append] at hk
    have h7 := flatten_back (D ++ news) (fun row hr => (hall [] (fun r h => by cases h) row (by rw [List.nil_append]; exact hr)).1) (xs := (toV (D ++ news)).flatten) rfl k' j row u hk hj
    rw [← Array.getElem?_toList, Array.toList_append, Array.toList_append]
    simp only
    rw [← happ, List.getElem?_append_left (List.getElem?_eq_some_iff.1 h7).1]
    exact h7) hpin
  have hfin := hR'.put (d := d) (x := .o b 0 (n + news.length) c2) hN (.o (by simpa using hblt) hge (by
   simp only [capAt, List.length_map, hblt, List.getElem?_set_self, OB.cap]
   omega) (fun h => by
   unfold atB at h
   rw [List.getElem?_set_self (by rw [hR.hp.len]; exact hblt)] at h
   cases h))
  have hdv : (AV.o b 0 (n + news.length) c2).den (ρ.set b (some w.heap.size)) ((H.map (killO (AV.den ρ H) [b])).set b (.arr e sz c2 ([] ++ D ++ news))) = .slice (some ⟨w.heap.size, 0, none⟩) (n + news.length) c2 := by
   have h1 : atB (ρ.set b (some w.heap.size)) b = some w.heap.size := by unfold atB; rw [List.getElem?_set_self (by rw [hR.hp.len]; exact hblt)]
   rw [AV.den, h1, Nat.zero_mul]; rfl
  rw [hdv] at hfin
  exact hfin
theorem ef_appkn {t e : TypeId} {sz d b k n c cap j : Nat} {s x : Operand} {v : AV} {rows news mid : List (List CV)} {F2 : (AV → Value) → Fm} {H2 : (AV → Value) → Nat → List (List CV) → List OB} (hcn : k + n = rows.length ∨ c < n + news.length) (hmid : (rows.drop k).take n = mid) (hne : rows ≠ []) (hnn : news ≠ []) (hj : news.length = j) (ho : o.op = .call { callee := .builtin .append, args := #[s, x], argTypes := #[t, t] }) (hd : o.dst = some d) (hN : d < N) (hE : ElemTy P t e sz)
    (hs : ev F s = some (.o b k n c)) (hH : H[b]? = some (.arr e sz cap rows)) (hn : k + n ≤ rows.length) (hx : ev F x = some v) (hsrc : Src H sz v news) (hle : n + j ≤ 1073741824) (hF2 : ∀ g, killF g [b] F = F2 g) (hH2 : ∀ g cap2 pre, (H.map (killO g [b])).set b (.arr e sz cap2 (pre ++ mid ++ news)) = H2 g cap2 pre) (hpin : (∃ q, E.H0.length = q ∧ Nat.ble q b = true) ∨ E.pin = false := by first | exact Or.inl ⟨_, by assumption, rfl⟩ | exact Or.inr (by assumption)) :
    Ef P N E o F H fun F' H' => ∃ g c2 cap2 pre, n + j ≤ c2 ∧ F' = (d, .o b pre.length (n + j) c2) :: F2 g ∧ H' = H2 g cap2 pre := by
 subst hj
 subst hmid
 have := ef_appk (N := N) (E := E) ho hd hN hE hs hH hn hcn hne hx hsrc hnn hle hpin
 intro S ρ a w hR
 exact effO_mono (fun _ _ ⟨S', ρ', F', H', ⟨g, c2, cap2, pre, h1, h2, h3⟩, h4⟩ => ⟨S', ρ', F', H', ⟨g, c2, cap2, pre, h1, by rw [h2, hF2], by rw [h3, hH2]⟩, h4⟩) (this S ρ a w hR)
theorem rd_slice0 {t e : TypeId} {sz : Nat} {x : Operand} {lo hi : Option Operand} {b k n c l h cap : Nat} {rows : List (List CV)} (ho : o.op = .slice t x lo hi none) (ht : elemSz P t = some (e, sz)) (hx : ev F x = some (.o b k n c)) (hH : H[b]? = some (.arr e sz cap rows))
    (hlo : (lo = none ∧ l = 0) ∨ ∃ y kd z, lo = some y ∧ ev F y = some (.c (.s (.int kd z))) ∧ z = l) (hhi : (hi = none ∧ h = n) ∨ ∃ y kd z, hi = some y ∧ ev F y = some (.c (.s (.int kd z))) ∧ z = h) (hlh : l ≤ h) (hhc : h ≤ n) (hlc : l = c) (hc0 : 0 < c) : Rd P N E o F H (.o b k 0 0) := fun S ρ a w hR => by
 obtain ⟨h1, h2⟩ := hR.ev hx
 obtain ⟨hu, inf, hinf, hs⟩ := elemSz_spec ht
 have hu' : (underlying t).run P w = .ok (.slice e) w := by unfold underlying; simp [hu]
 have hz : (sizeOf e).run P w = .ok sz w := by simp [sizeOf, typeInfo, hinf, hs]
 have hsz : szAt H b = sz := by unfold szAt; rw [hH]; rfl
 cases h2 with
 | o g0 g1 g2 g3 =>
  cases hB : atB ρ b with
  | none => have := (g3 hB).2; omega
  | some B =>
   have hbounds := run_bounds (P := P) (w := w) (bound_ev hR hlo) (bound_ev hR hhi) hlh (Nat.le_trans hhc g1) true
   refine ⟨?_, .o g0 (Nat.le_refl _) (by omega) (fun h => by rw [hB] at h; cases h)⟩
   simp only [execOp, ho, h1, AV.den, hB, Option.map_some, hsz, Instr.sliceAt, Instr.slice, Sem.run_bind, hu', Result.andThen_ok, Option.map_none, hbounds, hz, Sem.run_pure]
   rw [if_pos (by omega), show h - l = 0 by omega, show c - l = 0 by omega]
end
end Go.Proofs.YtfilfijammemfaaGreatDoor

/- The reference's Combined, with "or": two maps lie in a slice, said by their values. -/
-- NEWM
namespace Go.Proofs.YtfilfijammemfaaGreatDoor
open Go Go.RowKit
set_option maxRecDepth 100000
section
variable {P : Program} {N : Nat} {E : Env} {F : Fm} {H : List OB} {Q : Exit → Fm → List OB → Prop}
end
theorem setof_r (va : Value) (c : Cel) (h : RCel c) : ACalls Tryz.prog 49 [celA va c] [] fun u H => ∃ es ck, SetOk es ck (covL c) ∧ u = .mp 0 ∧ H = [mpO encP encT es ck] := by
 have h1 := h.st
 have h2 := h.far
 have h3 := h.h
 exact setof_v va c (by omega) (by omega) (by omega) (by omega) fun r hr => ⟨by have := (rcel_rows h r hr).1; omega, (rcel_rows h r hr).2⟩
abbrev mpS (es : SE) (ck : Nat) : OB := mpO encP encT es ck
end Go.Proofs.YtfilfijammemfaaGreatDoor

/- Maps in the logic: an entry is taken away. -/
namespace Go.Proofs.YtfilfijammemfaaGreatDoor
open Go Go.RowKit
def mdel {α β : Type} [DecidableEq α] (a : α) : List (Nat × α × β) → List (Nat × α × β)
 | [] => []
 | e :: l => if a = e.2.1 then l else e :: mdel a l
theorem mdel_none {α β : Type} [DecidableEq α] {a : α} : ∀ {l : List (Nat × α × β)}, mget l a = none → mdel a l = l
 | [], _ => rfl
 | e :: l, h => by
  simp only [mget] at h
  split at h
  ·cases h
  ·rename_i hne
   simp only [mdel]
   rw [if_neg hne, mdel_none h]
theorem mdel_some {α β : Type} [DecidableEq α] {a : α} : ∀ {l : List (Nat × α × β)} {i j : Nat}, kpos a (l.map (·.2.1)) i = some j → i ≤ j ∧ mdel a l = l.eraseIdx (j - i)
 | [], _, _, h => (by cases h)
 | e :: l, i, j, h => by
  simp only [List.map_cons, kpos] at h
  simp only [mdel]
  split at h
  ·rename_i he
   injection h with h
   subst h
   rw [if_pos he]
   exact ⟨Nat.le_refl _, by simp⟩
  ·rename_i he
   obtain ⟨h1, h2⟩ := mdel_some h
   rw [if_neg he, h2]
   exact ⟨by omega, by rw [show j - i = (j - (i + 1)) + 1 by omega, List.eraseIdx_cons_succ]⟩
theorem erase_map {α β : Type} (f : α → β) : ∀ (l : List α) (i : Nat), (l.map f).eraseIdx i = (l.eraseIdx i).map f
 | [], _ => rfl
 | _ :: _, 0 => rfl
 | x :: l, i + 1 => by rw [List.map_cons, List.eraseIdx_cons_succ, List.eraseIdx_cons_succ, erase_map f l i, List.map_cons]
theorem mdel_sub {α β : Type} [DecidableEq α] {a : α} : ∀ {l : List (Nat × α × β)}, (mdel a l).Sublist l
 | [] => .slnil
 | e :: l => by
  simp only [mdel]
  split
  ·exact List.sublist_cons_self _ _
  ·exact mdel_sub.cons_cons _
theorem mdel_mem {p q : Spot} : ∀ {es : SE}, (es.map (·.2.1)).Nodup → (q ∈ (mdel p es).map (·.2.1) ↔ q ∈ es.map (·.2.1) ∧ q ≠ p)
 | [], _ => by simp [mdel]
 | e :: es, h => by
  rw [List.map_cons, List.nodup_cons] at h
  simp only [mdel]
  split
  ·rename_i hp
   rw [List.map_cons, List.mem_cons]
   constructor
   ·intro hq
    exact ⟨.inr hq, fun e' => h.1 (by rw [← hp, ← e']; exact hq)⟩
   ·rintro ⟨hq | hq, hne⟩
    ·exact absurd (hq.trans hp.symm) hne
    ·exact hq
  ·rename_i hp
   rw [List.map_cons, List.mem_cons, mdel_mem h.2, List.map_cons, List.mem_cons]
   constructor
   ·rintro (hq | hq)
    ·exact ⟨.inl hq, fun e' => hp (by rw [← e', hq])⟩
    ·exact ⟨.inr hq.1, hq.2⟩
   ·rintro ⟨hq | hq, hne⟩
    ·exact .inl hq
    ·exact .inr ⟨hq, hne⟩
theorem SetOk.del {es : SE} {ck : Nat} {L : List Spot} (h : SetOk es ck L) (p : Spot) : SetOk (mdel p es) ck (L.filter fun q => !decide (q = p)) :=
 ⟨fun e he => h.hv e (mdel_sub.subset he), fun e he => h.hb e (mdel_sub.subset he), (mdel_sub.map _).nodup h.nb, (mdel_sub.map _).nodup h.nk, fun q => by
  rw [mdel_mem h.nk, h.hm, List.mem_filter]; simp⟩
section
variable {P : Program} {N : Nat} {E : Env} {F : Fm} {H : List OB} {o : Oper} {S : Nat → Prop} {ρ : List (Option Nat)} {a : Act} {w : World}
theorem ef_mapdel {α β : Type} [DecidableEq α] {ke : Enc α} {ve : Enc β} {t kt et : TypeId} {x ix : Operand} {b ck : Nat} {l : List (Nat × α × β)} {k : α} {xk : AV} (hk : KeyOk P kt ke) (ho : o.op = .call { callee := .builtin .delete, args := #[x, ix], argTypes := #[t, kt] }) (hd : o.dst = none) (ht : P.underlying t = some (.map kt et))
    (hx : ev F x = some (.mp b)) (hH : H[b]? = some (mpO ke ve l ck)) (hi : ev F ix = some xk) (hxk : ∀ ρ H, xk.den ρ H = ke.v k) :
    Ef P N E o F H fun F' H' => F' = F ∧ H' = H.set b (mpO ke ve (mdel k l) ck) := fun S ρ a w hR => by
 obtain ⟨h1, _⟩ := hR.ev hx
 have h2 := (hR.ev hi).1
 rw [hxk] at h2
 obtain ⟨B, ms, g1, g2, g3⟩ := mp_own hR.hp hH
 simp only [AV.den, g1] at h1
 obtain ⟨r, f1, f2, f3⟩ := hk.find ms.toList (l.map (·.2.1)) k w (by rw [g3, List.map_map, List.map_map]; rfl)
 obtain ⟨q1, q2⟩ := kpos_mget (a := k) l 0
 have fin : ∀ ms' : Array MapEntry, ms'.toList = (mdel k l).map (fun e => (⟨ke.v e.2.1, ve.v e.2.2, e.1⟩ : MapEntry)) → (Builtin.delete_ #[t, kt] o.type #[.map (some B), ke.v k]).run P w = .ok (.tuple #[]) (putBlk w B (.map ms' ck)) → effO P o a w fun a' w' => ∃ S' ρ' F' H', (F' = F ∧ H' = H.set b (mpO ke ve (mdel k l) ck)) ∧ R N E S' ρ' F' H' a' w' := fun ms' hms hr => by
  unfold effO
  have hex : (execOp a.eval o).run P w = .ok (.value (.tuple #[])) (putBlk w B (.map ms' ck)) := by
   unfold execOp
   simp only [ho, resolve, invoke, builtin, Sem.run_bind, Sem.run_pure, Result.andThen_ok, List.map_toArray, List.map_cons, List.map_nil, h1, h2, hr]
  rw [hex]
  refine ⟨S, ρ, _, _, ⟨rfl, rfl⟩, ?_⟩
  rw [hd]
  refine R.set (ob := mpO ke ve l ck) hR hH g1 rfl rfl (fun _ => rfl) (putBlk_size _ _) ⟨B, ms', rfl, putBlk_at g2, by rw [hms, List.map_map]; rfl, fun e he => ?_⟩
  obtain ⟨e', _, rfl⟩ := List.mem_map.1 he
  exact .s _
 cases hp : kpos k (l.map (·.2.1)) 0 with
 | none =>
  rw [f2 hp] at f1
  refine fin ms ?_ ?_
  ·rw [mdel_none (q1 hp), g3]
  ·simp [Builtin.delete_, mp_under ht, mp_get g2, hk.chk, f1, mp_put g2, Result.andThen]
 | some j =>
  obtain ⟨m, f4, f5⟩ := f3 j hp
  rw [f5] at f1
  obtain ⟨_, q6⟩ := mdel_some hp
  have hjs : j < ms.size := by
   have := (List.getElem?_eq_some_iff.1 f4).1
   simpa using this
  refine fin (ms.eraseIdxIfInBounds j) ?_ ?_
  ·rw [q6, Nat.sub_zero]
   unfold Array.eraseIdxIfInBounds
   rw [dif_pos hjs, Array.toList_eraseIdx, g3, erase_map]
  ·simp [Builtin.delete_, mp_under ht, mp_get g2, hk.chk, f1, mp_put g2, Result.andThen]
end
end Go.Proofs.YtfilfijammemfaaGreatDoor
