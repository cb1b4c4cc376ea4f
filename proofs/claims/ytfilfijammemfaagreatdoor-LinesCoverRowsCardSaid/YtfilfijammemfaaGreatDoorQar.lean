/- Lines of a grid: plain. -/
set_option linter.unusedSimpArgs false
set_option linter.unusedVariables false
namespace Go.Proofs.YtfilfijammemfaaGreatDoor
section
def mnL : List Int → Int
 | [] => 0
 | [a] => a
 | a :: b :: l => min a (mnL (b :: l))
def mxL : List Int → Int
 | [] => 0
 | [a] => a
 | a :: b :: l => max a (mxL (b :: l))
theorem mnL_cons {a : Int} {l : List Int} (h : l ≠ []) : mnL (a :: l) = min a (mnL l) := by
 cases l with
 | nil => exact absurd rfl h
 | cons b l => rfl
theorem mxL_cons {a : Int} {l : List Int} (h : l ≠ []) : mxL (a :: l) = max a (mxL l) := by
 cases l with
 | nil => exact absurd rfl h
 | cons b l => rfl
theorem mnL_snoc {a : Int} : ∀ {l : List Int}, l ≠ [] → mnL (l ++ [a]) = min (mnL l) a
 | [], h => absurd rfl h
 | [b], _ => rfl
 | b :: c :: l, _ => by
  have := mnL_snoc (a := a) (l := c :: l) (by simp)
  have e : mnL (b :: c :: l ++ [a]) = min b (mnL (c :: l ++ [a])) := rfl
  have e2 : mnL (b :: c :: l) = min b (mnL (c :: l)) := rfl
  rw [e, this, e2]
  omega
theorem mxL_snoc {a : Int} : ∀ {l : List Int}, l ≠ [] → mxL (l ++ [a]) = max (mxL l) a
 | [], h => absurd rfl h
 | [b], _ => rfl
 | b :: c :: l, _ => by
  have := mxL_snoc (a := a) (l := c :: l) (by simp)
  have e : mxL (b :: c :: l ++ [a]) = max b (mxL (c :: l ++ [a])) := rfl
  have e2 : mxL (b :: c :: l) = max b (mxL (c :: l)) := rfl
  rw [e, this, e2]
  omega
theorem zi1 : ∀ {l : List Int}, l ≠ [] → mnL l ∈ l ∧ ∀ x ∈ l, mnL l ≤ x
 | [], h => absurd rfl h
 | [a], _ => ⟨by simp [mnL], by simp [mnL]⟩
 | a :: b :: l, _ => by
  obtain ⟨h1, h2⟩ := zi1 (l := b :: l) (by simp)
  rw [mnL_cons (by simp)]
  refine ⟨?_, fun x hx => ?_⟩
  ·rcases Int.le_total a (mnL (b :: l)) with h | h
   ·rw [Int.min_eq_left h]; exact List.mem_cons_self
   ·rw [Int.min_eq_right h]; exact List.mem_cons_of_mem _ h1
  ·rcases List.mem_cons.1 hx with rfl | hx
   ·exact Int.min_le_left _ _
   ·exact Int.le_trans (Int.min_le_right _ _) (h2 x hx)
theorem zD1 : ∀ {l : List Int}, l ≠ [] → mxL l ∈ l ∧ ∀ x ∈ l, x ≤ mxL l
 | [], h => absurd rfl h
 | [a], _ => ⟨by simp [mxL], by simp [mxL]⟩
 | a :: b :: l, _ => by
  obtain ⟨h1, h2⟩ := zD1 (l := b :: l) (by simp)
  rw [mxL_cons (by simp)]
  refine ⟨?_, fun x hx => ?_⟩
  ·rcases Int.le_total a (mxL (b :: l)) with h | h
   ·rw [Int.max_eq_right h]; exact List.mem_cons_of_mem _ h1
   ·rw [Int.max_eq_left h]; exact List.mem_cons_self
  ·rcases List.mem_cons.1 hx with rfl | hx
   ·exact Int.le_max_left _ _
   ·exact Int.le_trans (h2 x hx) (Int.le_max_right _ _)
theorem mnL_mem {l l' : List Int} (h : ∀ x, x ∈ l ↔ x ∈ l') : mnL l = mnL l' := by
 by_cases e : l = []
 ·have : l' = [] := List.eq_nil_iff_forall_not_mem.2 fun x hx => by rw [← h, e] at hx; cases hx
  rw [e, this]
 ·have e' : l' ≠ [] := fun e' => by
   obtain ⟨h1, _⟩ := zi1 e
   rw [h, e'] at h1; cases h1
  obtain ⟨h1, h2⟩ := zi1 e
  obtain ⟨h3, h4⟩ := zi1 e'
  exact Int.le_antisymm (h2 _ ((h _).2 h3)) (h4 _ ((h _).1 h1))
theorem mxL_mem {l l' : List Int} (h : ∀ x, x ∈ l ↔ x ∈ l') : mxL l = mxL l' := by
 by_cases e : l = []
 ·have : l' = [] := List.eq_nil_iff_forall_not_mem.2 fun x hx => by rw [← h, e] at hx; cases hx
  rw [e, this]
 ·have e' : l' ≠ [] := fun e' => by
   obtain ⟨h1, _⟩ := zD1 e
   rw [h, e'] at h1; cases h1
  obtain ⟨h1, h2⟩ := zD1 e
  obtain ⟨h3, h4⟩ := zD1 e'
  exact Int.le_antisymm (h4 _ ((h _).1 h1)) (h2 _ ((h _).2 h3))
structure Cel where
 st : Int
 x : Int
 y : Int
 rows : List (List UInt8)
abbrev Spot := Int × Int
def hitR (x y : Int) : List UInt8 → List Spot
 | [] => []
 | b :: r => if b = 35 then (x, y) :: hitR (x + 1) y r else hitR (x + 1) y r
def hitC (x y : Int) : List (List UInt8) → List Spot
 | [] => []
 | r :: rs => hitR x y r ++ hitC x (y + 1) rs
def covL (c : Cel) : List Spot := hitC (c.x.tdiv c.st) (c.y.tdiv c.st) c.rows
theorem hitR_mem {y : Int} {p : Spot} : ∀ {r : List UInt8} {x : Int}, p ∈ hitR x y r ↔ ∃ k : Nat, r[k]? = some 35 ∧ p = (x + k, y)
 | [], x => by simp [hitR]
 | b :: r, x => by
  have ih := hitR_mem (y := y) (p := p) (r := r) (x := x + 1)
  have e : (∃ k : Nat, (b :: r)[k]? = some 35 ∧ p = (x + k, y)) ↔ (b = 35 ∧ p = (x, y)) ∨ ∃ k : Nat, r[k]? = some 35 ∧ p = (x + 1 + k, y) := by
   constructor
   ·rintro ⟨k, h1, h2⟩
    cases k with
    | zero => exact .inl ⟨by simpa using h1, by simpa using h2⟩
    | succ k => exact .inr ⟨k, by simpa using h1, by rw [h2]; congr 1; omega⟩
   ·rintro (⟨h1, h2⟩ | ⟨k, h1, h2⟩)
    ·exact ⟨0, by simp [h1], by simp [h2]⟩
    ·exact ⟨k + 1, by simpa using h1, by rw [h2]; congr 1; omega⟩
  rw [e, hitR]
  split
  ·rename_i hb; rw [List.mem_cons, ih]; simp [hb]
  ·rename_i hb; rw [ih]; simp [hb]
theorem hitC_mem {x : Int} {p : Spot} : ∀ {rs : List (List UInt8)} {y : Int}, p ∈ hitC x y rs ↔ ∃ (i k : Nat) (r : List UInt8), rs[i]? = some r ∧ r[k]? = some 35 ∧ p = (x + k, y + i)
 | [], y => by simp [hitC]
 | r :: rs, y => by
  have ih := hitC_mem (x := x) (p := p) (rs := rs) (y := y + 1)
  rw [hitC, List.mem_append, hitR_mem, ih]
  constructor
  ·rintro (⟨k, h1, h2⟩ | ⟨i, k, r', h1, h2, h3⟩)
   ·exact ⟨0, k, r, rfl, h1, by rw [h2]; simp⟩
   ·exact ⟨i + 1, k, r', by simpa using h1, h2, by rw [h3]; congr 1; omega⟩
  ·rintro ⟨i, k, r', h1, h2, h3⟩
   cases i with
   | zero => simp only [List.getElem?_cons_zero, Option.some.injEq] at h1; subst h1; exact .inl ⟨k, h2, by rw [h3]; simp⟩
   | succ i => exact .inr ⟨i, k, r', by simpa using h1, h2, by rw [h3]; congr 1; omega⟩
theorem hitR_append {y : Int} : ∀ {r s : List UInt8} {x : Int}, hitR x y (r ++ s) = hitR x y r ++ hitR (x + r.length) y s
 | [], s, x => by simp [hitR]
 | b :: r, s, x => by
  rw [List.cons_append, hitR, hitR, hitR_append]
  have : x + 1 + (r.length : Int) = x + ((b :: r).length : Int) := by simp; omega
  rw [this]
  split <;> simp
theorem hitC_append {x : Int} : ∀ {r s : List (List UInt8)} {y : Int}, hitC x y (r ++ s) = hitC x y r ++ hitC x (y + r.length) s
 | [], s, y => by simp [hitC]
 | b :: r, s, y => by
  rw [List.cons_append, hitC, hitC, hitC_append]
  have : y + 1 + (r.length : Int) = y + ((b :: r).length : Int) := by simp; omega
  rw [this, List.append_assoc]
abbrev cols (L : List Spot) : List Int := L.map Prod.fst
abbrev rws (L : List Spot) : List Int := L.map Prod.snd
def x0 (L : List Spot) : Int := mnL (cols L)
def x1 (L : List Spot) : Int := mxL (cols L)
def y0 (L : List Spot) : Int := mnL (rws L)
def y1 (L : List Spot) : Int := mxL (rws L)
def rowB (L : List Spot) (x y : Int) (w : Nat) : List UInt8 := (List.range w).map fun k => if (x + (k : Nat), y) ∈ L then 35 else 46
def celN (st : Int) (L : List Spot) : Cel := if L = [] then ⟨st, 0, 0, []⟩ else ⟨st, x0 L * st, y0 L * st, (List.range (y1 L - y0 L + 1).toNat).map fun i => rowB L (x0 L) (y0 L + (i : Nat)) (x1 L - x0 L + 1).toNat⟩
theorem celN_mem {st : Int} {L L' : List Spot} (h : ∀ p, p ∈ L ↔ p ∈ L') : celN st L = celN st L' := by
 have hc : ∀ x, x ∈ cols L ↔ x ∈ cols L' := fun x => by simp only [cols, List.mem_map, h]
 have hr : ∀ x, x ∈ rws L ↔ x ∈ rws L' := fun x => by simp only [rws, List.mem_map, h]
 have e : (L = []) ↔ (L' = []) := by rw [List.eq_nil_iff_forall_not_mem, List.eq_nil_iff_forall_not_mem]; exact forall_congr' fun p => not_congr (h p)
 have hb : ∀ x y w, rowB L x y w = rowB L' x y w := fun x y w => by unfold rowB; exact List.map_congr_left fun k _ => by simp only [h]
 unfold celN x0 x1 y0 y1
 simp only [mnL_mem hc, mxL_mem hc, mnL_mem hr, mxL_mem hr, hb, e]
theorem x0_le {L : List Spot} {p : Spot} (h : p ∈ L) : x0 L ≤ p.1 ∧ p.1 ≤ x1 L ∧ y0 L ≤ p.2 ∧ p.2 ≤ y1 L := by
 have h1 : p.1 ∈ cols L := List.mem_map.2 ⟨p, h, rfl⟩
 have h2 : p.2 ∈ rws L := List.mem_map.2 ⟨p, h, rfl⟩
 exact ⟨(zi1 (List.ne_nil_of_mem h1)).2 _ h1, (zD1 (List.ne_nil_of_mem h1)).2 _ h1, (zi1 (List.ne_nil_of_mem h2)).2 _ h2, (zD1 (List.ne_nil_of_mem h2)).2 _ h2⟩
theorem x0_at {L : List Spot} (h : L ≠ []) : (∃ p ∈ L, p.1 = x0 L) ∧ (∃ p ∈ L, p.1 = x1 L) ∧ (∃ p ∈ L, p.2 = y0 L) ∧ (∃ p ∈ L, p.2 = y1 L) := by
 have hc : cols L ≠ [] := by simpa [cols] using h
 have hr : rws L ≠ [] := by simpa [rws] using h
 have fc : ∀ x, x ∈ cols L → ∃ p ∈ L, p.1 = x := fun x h => by obtain ⟨p, h1, h2⟩ := List.mem_map.1 h; exact ⟨p, h1, h2⟩
 have fr : ∀ x, x ∈ rws L → ∃ p ∈ L, p.2 = x := fun x h => by obtain ⟨p, h1, h2⟩ := List.mem_map.1 h; exact ⟨p, h1, h2⟩
 exact ⟨fc _ (zi1 hc).1, fc _ (zD1 hc).1, fr _ (zi1 hr).1, fr _ (zD1 hr).1⟩
theorem covL_celN {st : Int} {L : List Spot} (hst : 0 < st) {p : Spot} : p ∈ covL (celN st L) ↔ p ∈ L := by
 unfold celN covL
 split
 ·rename_i h; subst h; simp [hitC]
 ·rename_i h
  simp only [Int.mul_tdiv_cancel _ (show st ≠ 0 by omega)]
  rw [hitC_mem]
  constructor
  ·rintro ⟨i, k, r, h1, h2, rfl⟩
   rw [List.getElem?_map] at h1
   obtain ⟨i', hi, rfl⟩ := Option.map_eq_some_iff.1 h1
   obtain rfl : i = i' := by have := List.getElem?_eq_some_iff.1 hi; simpa using this.2
   unfold rowB at h2
   rw [List.getElem?_map] at h2
   obtain ⟨k', hk, h3⟩ := Option.map_eq_some_iff.1 h2
   obtain rfl : k = k' := by have := List.getElem?_eq_some_iff.1 hk; simpa using this.2
   split at h3
   ·assumption
   ·cases h3
  ·intro hp
   obtain ⟨h1, h2, h3, h4⟩ := x0_le hp
   obtain ⟨a, b⟩ := p
   simp only at h1 h2 h3 h4
   refine ⟨(b - y0 L).toNat, (a - x0 L).toNat, rowB L (x0 L) (y0 L + ((b - y0 L).toNat : Nat)) (x1 L - x0 L + 1).toNat, ?_, ?_, ?_⟩
   ·rw [List.getElem?_map, List.getElem?_range (by omega)]; rfl
   ·unfold rowB
    rw [List.getElem?_map, List.getElem?_range (by omega)]
    simp only [Option.map_some, Option.some.injEq]
    rw [if_pos]
    rw [show x0 L + ((a - x0 L).toNat : Int) = a by omega, show y0 L + ((b - y0 L).toNat : Int) = b by omega]
    exact hp
   ·rw [show x0 L + ((a - x0 L).toNat : Int) = a by omega, show y0 L + ((b - y0 L).toNat : Int) = b by omega]
end
section
def okB2 (r : List UInt8) : Bool := r.all fun b => b == 35 || b == 46
def rowsF (w : Nat) : List (List UInt8) → Int
 | [] => 0
 | r :: rs => if r.length ≠ w then 3 else if okB2 r = false then 9 else rowsF w rs
def wid (rows : List (List UInt8)) : Nat := (rows.headD []).length
def stepB (st : Int) : Bool := decide (st < 2) || decide (10000 < st) || decide (st.tmod 2 ≠ 0)
def tightB (rows : List (List UInt8)) : Bool := (rows.headD []).contains 35 && (rows.getLastD []).contains 35 && (rows.any fun r => r[0]? == some 35) && (rows.any fun r => r[wid rows - 1]? == some 35)
def farB (n : Int) : Bool := decide (n < -2000000) || decide (2000000 < n)
def celF (c : Cel) : Int :=
 if stepB c.st = true then 1
 else if c.rows = [] ∧ (c.x ≠ 0 ∨ c.y ≠ 0) then 3
 else if 200 < c.rows.length then 2
 else if c.rows = [] then 0
 else if rowsF (wid c.rows) c.rows ≠ 0 then rowsF (wid c.rows) c.rows
 else if 200 < wid c.rows then 2
 else if (farB c.x || farB c.y) = true then 1
 else if c.x.tmod c.st ≠ 0 ∨ c.y.tmod c.st ≠ 0 ∨ tightB c.rows = false then 3
 else 0
theorem rowsF_0 {w : Nat} : ∀ {rows : List (List UInt8)}, rowsF w rows = 0 ↔ ∀ r ∈ rows, r.length = w ∧ okB2 r = true
 | [] => by simp [rowsF]
 | r :: rs => by
  have ih := rowsF_0 (w := w) (rows := rs)
  unfold rowsF
  split
  ·rename_i h; simp [h]
  ·rename_i h
   split
   ·rename_i h2; simp [h2]
   ·rename_i h2; rw [ih]; simp at h h2; simp [h, h2]
theorem stepB_f {st : Int} : stepB st = false ↔ 2 ≤ st ∧ st ≤ 10000 ∧ st.tmod 2 = 0 := by
 unfold stepB
 simp only [Bool.or_eq_false_iff, decide_eq_false_iff_not]
 constructor
 ·rintro ⟨⟨h1, h2⟩, h3⟩; exact ⟨by omega, by omega, by omega⟩
 ·rintro ⟨h1, h2, h3⟩; exact ⟨⟨by omega, by omega⟩, by omega⟩
structure RCel (c : Cel) : Prop where
 st : 2 ≤ c.st ∧ c.st ≤ 10000 ∧ c.st.tmod 2 = 0
 emp : c.rows = [] → c.x = 0 ∧ c.y = 0
 h : c.rows.length ≤ 200
 w : wid c.rows ≤ 200
 row : ∀ r ∈ c.rows, r.length = wid c.rows ∧ okB2 r = true
 far : (-2000000 ≤ c.x ∧ c.x ≤ 2000000) ∧ (-2000000 ≤ c.y ∧ c.y ≤ 2000000)
 mod : c.x.tmod c.st = 0 ∧ c.y.tmod c.st = 0
 tight : c.rows ≠ [] → tightB c.rows = true
theorem farB_f {n : Int} : farB n = false ↔ -2000000 ≤ n ∧ n ≤ 2000000 := by
 unfold farB
 simp only [Bool.or_eq_false_iff, decide_eq_false_iff_not]
 omega
theorem celF_0 {c : Cel} : celF c = 0 ↔ RCel c := by
 constructor
 ·intro h
  unfold celF at h
  split at h
  ·cases h
  rename_i h1
  split at h
  ·cases h
  rename_i h2
  split at h
  ·cases h
  rename_i h3
  have hst := stepB_f.1 (by simpa using h1)
  split at h
  ·rename_i h4
   have hxy : c.x = 0 ∧ c.y = 0 := by
    refine ⟨?_, ?_⟩
    ·apply Classical.byContradiction; intro e; exact h2 ⟨h4, .inl e⟩
    ·apply Classical.byContradiction; intro e; exact h2 ⟨h4, .inr e⟩
   exact ⟨hst, fun _ => hxy, by omega, by rw [h4]; simp [wid], fun r hr => (by rw [h4] at hr; cases hr), by omega, by rw [hxy.1, hxy.2]; exact ⟨Int.zero_tmod _, Int.zero_tmod _⟩, fun e => absurd h4 e⟩
  rename_i h4
  split at h
  ·rename_i h5; exact absurd h h5
  rename_i h5
  split at h
  ·cases h
  rename_i h6
  split at h
  ·cases h
  rename_i h7
  split at h
  ·cases h
  rename_i h8
  have h7' : (farB c.x || farB c.y) = false := by simpa using h7
  rw [Bool.or_eq_false_iff] at h7'
  refine ⟨hst, fun e => absurd e h4, by omega, by omega, rowsF_0.1 (by omega), ⟨farB_f.1 h7'.1, farB_f.1 h7'.2⟩, ⟨?_, ?_⟩, fun _ => ?_⟩
  ·apply Classical.byContradiction; intro e; exact h8 (.inl e)
  ·apply Classical.byContradiction; intro e; exact h8 (.inr (.inl e))
  ·cases e : tightB c.rows with
   | true => rfl
   | false => exact absurd (.inr (.inr e)) h8
 ·rintro ⟨h1, h2, h3, h4, h5, h6, h7, h8⟩
  unfold celF
  rw [if_neg (by rw [stepB_f.2 h1]; simp)]
  by_cases e : c.rows = []
  ·rw [if_neg (by rintro ⟨_, g⟩; obtain ⟨k1, k2⟩ := h2 e; rcases g with g | g <;> contradiction), if_neg (by omega), if_pos e]
  ·rw [if_neg (by rintro ⟨g, _⟩; exact e g), if_neg (by omega), if_neg e, if_neg (by rw [rowsF_0.2 h5]; simp), if_neg (by omega), if_neg (by rw [farB_f.2 h6.1, farB_f.2 h6.2]; simp), if_neg]
   rintro (g | g | g)
   ·exact g h7.1
   ·exact g h7.2
   ·rw [h8 e] at g; cases g
theorem RCel.at {c : Cel} (h : RCel c) : c.x.tdiv c.st * c.st = c.x ∧ c.y.tdiv c.st * c.st = c.y :=
 ⟨Int.tdiv_mul_cancel (Int.dvd_of_tmod_eq_zero h.mod.1), Int.tdiv_mul_cancel (Int.dvd_of_tmod_eq_zero h.mod.2)⟩
theorem covL_in {c : Cel} (h : RCel c) {p : Spot} (hp : p ∈ covL c) : c.x.tdiv c.st ≤ p.1 ∧ p.1 ≤ c.x.tdiv c.st + (wid c.rows - 1 : Nat) ∧ c.y.tdiv c.st ≤ p.2 ∧ p.2 ≤ c.y.tdiv c.st + (c.rows.length - 1 : Nat) ∧ 0 < wid c.rows ∧ 0 < c.rows.length := by
 obtain ⟨i, k, r, h1, h2, rfl⟩ := hitC_mem.1 hp
 have hi := (List.getElem?_eq_some_iff.1 h1).1
 have hk := (List.getElem?_eq_some_iff.1 h2).1
 rw [(h.row r (List.mem_of_getElem? h1)).1] at hk
 refine ⟨?_, ?_, ?_, ?_, by omega, by omega⟩ <;> simp only <;> omega
theorem okB2_rowB (L : List Spot) (x y : Int) (w : Nat) : okB2 (rowB L x y w) = true := by
 unfold okB2 rowB
 rw [List.all_eq_true]
 intro b hb
 obtain ⟨k, _, rfl⟩ := List.mem_map.1 hb
 split <;> rfl
theorem rowB_len (L : List Spot) (x y : Int) (w : Nat) : (rowB L x y w).length = w := by simp [rowB]
theorem rowB_at {L : List Spot} {x y : Int} {w k : Nat} (hk : k < w) (h : (x + (k : Nat), y) ∈ L) : (rowB L x y w)[k]? = some 35 := by
 unfold rowB
 rw [List.getElem?_map, List.getElem?_range hk]
 simp [h]
theorem celN_ok {st : Int} {L : List Spot} (hst : 2 ≤ st ∧ st ≤ 10000 ∧ st.tmod 2 = 0) (hw : x1 L - x0 L ≤ 199) (hh : y1 L - y0 L ≤ 199) (hx : -2000000 ≤ x0 L * st ∧ x0 L * st ≤ 2000000) (hy : -2000000 ≤ y0 L * st ∧ y0 L * st ≤ 2000000) : RCel (celN st L) := by
 unfold celN
 split
 ·exact ⟨hst, fun _ => ⟨rfl, rfl⟩, by simp, by simp [wid], fun r h => (by cases h), by simp only; omega, ⟨Int.zero_tmod _, Int.zero_tmod _⟩, fun e => absurd rfl e⟩
 rename_i hL
 obtain ⟨⟨p1, hp1, e1⟩, ⟨p2, hp2, e2⟩, ⟨p3, hp3, e3⟩, ⟨p4, hp4, e4⟩⟩ := x0_at hL
 have b1 := x0_le hp1
 have b2 := x0_le hp2
 have b3 := x0_le hp3
 have b4 := x0_le hp4
 obtain ⟨n, hn⟩ : ∃ n : Nat, (y1 L - y0 L + 1).toNat = n + 1 := ⟨(y1 L - y0 L).toNat, by omega⟩
 obtain ⟨m, hm⟩ : ∃ m : Nat, (x1 L - x0 L + 1).toNat = m + 1 := ⟨(x1 L - x0 L).toNat, by omega⟩
 have hne : ((List.range (n + 1)).map fun i => rowB L (x0 L) (y0 L + (i : Nat)) (m + 1)) ≠ [] := by simp
 have hwid : wid ((List.range (n + 1)).map fun i => rowB L (x0 L) (y0 L + (i : Nat)) (m + 1)) = m + 1 := by
  unfold wid
  rw [List.range_succ_eq_map]
  simp [rowB_len]
 have hrow : ∀ i : Nat, i < n + 1 → rowB L (x0 L) (y0 L + (i : Nat)) (m + 1) ∈ ((List.range (n + 1)).map fun i => rowB L (x0 L) (y0 L + (i : Nat)) (m + 1)) := fun i hi => List.mem_map.2 ⟨i, List.mem_range.2 hi, rfl⟩
 rw [hn, hm]
 refine ⟨hst, fun e => absurd e hne, by simp only [List.length_map, List.length_range]; omega, by rw [hwid]; omega, fun r hr => ?_, ⟨hx, hy⟩, ⟨Int.mul_tmod_left _ _, Int.mul_tmod_left _ _⟩, fun _ => ?_⟩
 ·obtain ⟨i, _, rfl⟩ := List.mem_map.1 hr
  rw [hwid]
  exact ⟨rowB_len _ _ _ _, okB2_rowB _ _ _ _⟩
 ·unfold tightB
  rw [hwid]
  have hat : ∀ p ∈ L, ∀ i k : Nat, p = (x0 L + (k : Nat), y0 L + (i : Nat)) → k < m + 1 → (rowB L (x0 L) (y0 L + (i : Nat)) (m + 1))[k]? = some 35 := fun p hp i k e hk => rowB_at hk (e ▸ hp)
  simp only [Bool.and_eq_true, List.any_eq_true, List.contains_iff_mem]
  refine ⟨⟨⟨?_, ?_⟩, ?_⟩, ?_⟩
  ·rw [List.range_succ_eq_map]
   simp only [List.map_cons, List.headD_cons]
   exact List.mem_of_getElem? (hat p3 hp3 0 (p3.1 - x0 L).toNat (by ext <;> simp <;> omega) (by omega))
  ·rw [List.range_succ]
   simp only [List.map_append, List.map_cons, List.map_nil, List.getLastD_concat]
   exact List.mem_of_getElem? (hat p4 hp4 n (p4.1 - x0 L).toNat (by ext <;> simp <;> omega) (by omega))
  ·exact ⟨_, hrow (p1.2 - y0 L).toNat (by omega), by rw [hat p1 hp1 _ 0 (by ext <;> simp <;> omega) (by omega)]; rfl⟩
  ·exact ⟨_, hrow (p2.2 - y0 L).toNat (by omega), by rw [Nat.add_sub_cancel, hat p2 hp2 _ m (by ext <;> simp <;> omega) (by omega)]; rfl⟩
def normC (st : Int) (L : List Spot) : Cel × Int :=
 if L = [] then (⟨st, 0, 0, []⟩, 0)
 else if 199 < x1 L - x0 L ∨ 199 < y1 L - y0 L then (⟨0, 0, 0, []⟩, 12)
 else if celF (celN st L) ≠ 0 then (⟨0, 0, 0, []⟩, celF (celN st L))
 else (celN st L, 0)
theorem normC_mem {st : Int} {L L' : List Spot} (h : ∀ p, p ∈ L ↔ p ∈ L') : normC st L = normC st L' := by
 have hc : ∀ x, x ∈ cols L ↔ x ∈ cols L' := fun x => by simp only [cols, List.mem_map, h]
 have hr : ∀ x, x ∈ rws L ↔ x ∈ rws L' := fun x => by simp only [rws, List.mem_map, h]
 have e : (L = []) ↔ (L' = []) := by rw [List.eq_nil_iff_forall_not_mem, List.eq_nil_iff_forall_not_mem]; exact forall_congr' fun p => not_congr (h p)
 unfold normC
 rw [celN_mem h]
 unfold x0 x1 y0 y1
 simp only [mnL_mem hc, mxL_mem hc, mnL_mem hr, mxL_mem hr, e]
structure NCel (c : Cel) : Prop where
 r : RCel c
 x : -10000 ≤ c.x ∧ c.x ≤ 10000
 y : -10000 ≤ c.y ∧ c.y ≤ 10000
theorem normC_ok {c : Cel} (h : NCel c) {L : List Spot} (hL : ∀ p ∈ L, p ∈ covL c) : normC c.st L = (celN c.st L, 0) ∧ RCel (celN c.st L) := by
 by_cases e : L = []
 ·subst e
  refine ⟨rfl, celN_ok h.r.st (by decide) (by decide) ?_ ?_⟩ <;> simp [x0, y0, mnL, cols, rws]
 obtain ⟨⟨p1, hp1, e1⟩, ⟨p2, hp2, e2⟩, ⟨p3, hp3, e3⟩, ⟨p4, hp4, e4⟩⟩ := x0_at e
 obtain ⟨hx, hy⟩ := h.r.at
 have hst := h.r.st
 have q1 := covL_in h.r (hL p1 hp1)
 have q2 := covL_in h.r (hL p2 hp2)
 have q3 := covL_in h.r (hL p3 hp3)
 have q4 := covL_in h.r (hL p4 hp4)
 have hw := h.r.w
 have hh := h.r.h
 have h1 := h.x
 have h2 := h.y
 have mul : ∀ a b : Int, a ≤ b → a * c.st ≤ b * c.st := fun a b hab => Int.mul_le_mul_of_nonneg_right hab (by omega)
 have w1 : x1 L - x0 L ≤ 199 := by omega
 have w2 : y1 L - y0 L ≤ 199 := by omega
 have m1 := mul _ _ q1.1
 have m2 := mul _ _ (show p1.1 ≤ c.x.tdiv c.st + 199 by omega)
 have m3 := mul _ _ q3.2.2.1
 have m4 := mul _ _ (show p3.2 ≤ c.y.tdiv c.st + 199 by omega)
 rw [Int.add_mul, hx] at m2
 rw [Int.add_mul, hy] at m4
 rw [hx] at m1
 rw [hy] at m3
 have hr := celN_ok hst w1 w2 (by rw [← e1]; omega) (by rw [← e3]; omega)
 refine ⟨?_, hr⟩
 unfold normC
 rw [if_neg e, if_neg (by omega), if_neg (by rw [celF_0.2 hr]; simp)]
end
section
structure Grd where
 st : Int
 x : Int
 y : Int
 w : Nat
 h : Nat
 on : List Bool
def spt (g : Grd) (i : Nat) : Spot := (g.x + (i % g.w : Nat), g.y + (i / g.w : Nat))
def covK (g : Grd) (n : Nat) : List Spot := ((List.range n).filter fun i => g.on.getD i false).map (spt g)
def covG (g : Grd) : List Spot := covK g g.on.length
theorem covK_snoc (g : Grd) (n : Nat) : covK g (n + 1) = covK g n ++ (if g.on.getD n false = true then [spt g n] else []) := by
 unfold covK
 rw [List.range_succ, List.filter_append, List.map_append]
 congr 1
 simp only [List.filter_cons, List.filter_nil]
 split <;> rfl
theorem covG_mem {g : Grd} {p : Spot} : p ∈ covG g ↔ ∃ i : Nat, g.on[i]? = some true ∧ p = spt g i := by
 unfold covG covK
 simp only [List.mem_map, List.mem_filter, List.mem_range]
 constructor
 ·rintro ⟨i, ⟨h1, h2⟩, rfl⟩
  refine ⟨i, ?_, rfl⟩
  rw [List.getD_eq_getElem?_getD, List.getElem?_eq_getElem h1] at h2
  rw [List.getElem?_eq_getElem h1]
  simpa using h2
 ·rintro ⟨i, h1, rfl⟩
  refine ⟨i, ⟨(List.getElem?_eq_some_iff.1 h1).1, ?_⟩, rfl⟩
  rw [List.getD_eq_getElem?_getD, h1]; rfl
theorem spt_at {g : Grd} {a b : Nat} (ha : a < g.w) : spt g (b * g.w + a) = (g.x + (a : Nat), g.y + (b : Nat)) := by
 unfold spt
 have h1 : (b * g.w + a) % g.w = a := by rw [Nat.mul_comm, Nat.mul_add_mod]; exact Nat.mod_eq_of_lt ha
 have h2 : (b * g.w + a) / g.w = b := by rw [Nat.mul_comm, Nat.mul_add_div (by omega), Nat.div_eq_of_lt ha]; omega
 rw [h1, h2]
def atG (g : Grd) (a b : Int) : Bool := decide (0 ≤ a - g.x) && decide (a - g.x < g.w) && decide (0 ≤ b - g.y) && decide (b - g.y < g.h) && g.on.getD ((b - g.y).toNat * g.w + (a - g.x).toNat) false
theorem atG_iff {g : Grd} (hl : g.on.length = g.w * g.h) {a b : Int} : atG g a b = true ↔ (a, b) ∈ covG g := by
 rw [covG_mem]
 unfold atG
 simp only [Bool.and_eq_true, decide_eq_true_iff]
 constructor
 ·rintro ⟨⟨⟨⟨h1, h2⟩, h3⟩, h4⟩, h5⟩
  refine ⟨(b - g.y).toNat * g.w + (a - g.x).toNat, ?_, ?_⟩
  ·rw [List.getD_eq_getElem?_getD] at h5
   cases e : g.on[(b - g.y).toNat * g.w + (a - g.x).toNat]? with
   | none => rw [e] at h5; cases h5
   | some v => rw [e] at h5; simp only [Option.getD_some] at h5; rw [h5]
  ·rw [spt_at (by omega)]
   ext <;> simp only <;> omega
 ·rintro ⟨i, h1, h2⟩
  have hi := (List.getElem?_eq_some_iff.1 h1).1
  rw [hl] at hi
  have hw : 0 < g.w := by
   rcases Nat.eq_zero_or_pos g.w with e | e
   ·rw [e] at hi; simp at hi
   ·exact e
  have hm := Nat.mod_lt i hw
  have hd : i / g.w < g.h := Nat.div_lt_of_lt_mul hi
  unfold spt at h2
  obtain ⟨e1, e2⟩ := Prod.mk.inj h2
  have k0 := Nat.div_add_mod i g.w
  generalize i / g.w = q at hd e2 k0 ⊢
  generalize i % g.w = r at hm e1 k0 ⊢
  refine ⟨⟨⟨⟨by omega, by omega⟩, by omega⟩, by omega⟩, ?_⟩
  have k1 : (b - g.y).toNat = q := by omega
  have k2 : (a - g.x).toNat = r := by omega
  rw [k1, k2, Nat.mul_comm, k0, List.getD_eq_getElem?_getD, h1]; rfl
theorem atG_eq {g : Grd} (hl : g.on.length = g.w * g.h) (a b : Int) : atG g a b = decide ((a, b) ∈ covG g) := by
 rw [Bool.eq_iff_iff, atG_iff hl, decide_eq_true_iff]
def zc (c : Cel) : Grd := if c.rows = [] then ⟨c.st, 0, 0, 0, 0, []⟩ else ⟨c.st, c.x.tdiv c.st, c.y.tdiv c.st, wid c.rows, c.rows.length, c.rows.flatten.map (· == 35)⟩
theorem flat_len {w : Nat} : ∀ {rows : List (List UInt8)}, (∀ r ∈ rows, r.length = w) → rows.flatten.length = w * rows.length
 | [], _ => by simp
 | r :: rs, h => by
  rw [List.flatten_cons, List.length_append, flat_len (fun q hq => h q (List.mem_cons_of_mem _ hq)), h r List.mem_cons_self, List.length_cons, Nat.mul_add, Nat.mul_one, Nat.add_comm]
theorem flat_at {w : Nat} : ∀ {rows : List (List UInt8)}, (∀ r ∈ rows, r.length = w) → ∀ {i k : Nat}, k < w → i < rows.length → rows.flatten[i * w + k]? = (rows[i]?.getD [])[k]?
 | [], _, i, k, _, h => by simp at h
 | r :: rs, h, i, k, hk, hi => by
  have hr := h r List.mem_cons_self
  rw [List.flatten_cons]
  cases i with
  | zero => rw [Nat.zero_mul, Nat.zero_add, List.getElem?_append_left (by omega)]; rfl
  | succ i =>
   have := flat_at (fun q hq => h q (List.mem_cons_of_mem _ hq)) hk (show i < rs.length by simpa using hi)
   rw [List.getElem?_append_right (by rw [hr, Nat.succ_mul]; omega)]
   rw [show (i + 1) * w + k - r.length = i * w + k by rw [hr, Nat.succ_mul]; omega, this]
   rfl
theorem grdOf_len {c : Cel} (h : RCel c) : (zc c).on.length = (zc c).w * (zc c).h := by
 unfold zc
 split
 ·rfl
 ·simp only [List.length_map]
  exact flat_len fun r hr => (h.row r hr).1
theorem zN {c : Cel} (h : RCel c) {p : Spot} : p ∈ covG (zc c) ↔ p ∈ covL c := by
 rw [covG_mem]
 unfold covL
 rw [hitC_mem]
 have hrow : ∀ r ∈ c.rows, r.length = wid c.rows := fun r hr => (h.row r hr).1
 unfold zc
 split
 ·rename_i e
  rw [e]
  simp
 rename_i e
 constructor
 ·rintro ⟨i, h1, rfl⟩
  simp only at h1 ⊢
  rw [List.getElem?_map] at h1
  obtain ⟨b, hb, hb2⟩ := Option.map_eq_some_iff.1 h1
  have hi := (List.getElem?_eq_some_iff.1 hb).1
  rw [flat_len hrow] at hi
  have hw : 0 < wid c.rows := by
   rcases Nat.eq_zero_or_pos (wid c.rows) with e | e
   ·rw [e] at hi; simp at hi
   ·exact e
  have hd : i / wid c.rows < c.rows.length := Nat.div_lt_of_lt_mul hi
  have hm := Nat.mod_lt i hw
  have hx := flat_at hrow hm hd
  rw [Nat.mul_comm, Nat.div_add_mod, hb, List.getElem?_eq_getElem hd] at hx
  refine ⟨i / wid c.rows, i % wid c.rows, c.rows[i / wid c.rows], List.getElem?_eq_getElem hd, ?_, rfl⟩
  rw [Option.getD_some] at hx
  rw [← hx]
  have : b = 35 := by simpa using hb2
  rw [this]
 ·rintro ⟨i, k, r, h1, h2, rfl⟩
  have hi := (List.getElem?_eq_some_iff.1 h1).1
  have hk := (List.getElem?_eq_some_iff.1 h2).1
  rw [hrow r (List.mem_of_getElem? h1)] at hk
  refine ⟨i * wid c.rows + k, ?_, ?_⟩
  ·simp only
   rw [List.getElem?_map, flat_at hrow hk hi, h1, Option.getD_some, h2]; rfl
  ·exact (spt_at (g := ⟨c.st, c.x.tdiv c.st, c.y.tdiv c.st, wid c.rows, c.rows.length, c.rows.flatten.map (· == 35)⟩) hk).symm
def filG (g : Grd) (f : Spot → Bool) : Grd := { g with on := (List.range g.on.length).map fun i => g.on.getD i false && f (spt g i) }
theorem filG_cov {g : Grd} {f : Spot → Bool} {p : Spot} : p ∈ covG (filG g f) ↔ p ∈ covG g ∧ f p = true := by
 rw [covG_mem, covG_mem]
 constructor
 ·rintro ⟨i, h1, rfl⟩
  unfold filG at h1
  simp only at h1
  rw [List.getElem?_map] at h1
  obtain ⟨j, hj, h2⟩ := Option.map_eq_some_iff.1 h1
  obtain ⟨hlt, rfl⟩ := List.getElem?_eq_some_iff.1 hj
  simp only [List.getElem_range, Bool.and_eq_true] at h2
  simp only [List.length_range] at hlt
  refine ⟨⟨i, ?_, rfl⟩, h2.2⟩
  have := h2.1
  rw [List.getD_eq_getElem?_getD, List.getElem?_eq_getElem hlt] at this
  rw [List.getElem?_eq_getElem hlt]
  simpa using this
 ·rintro ⟨⟨i, h1, rfl⟩, h2⟩
  have hi := (List.getElem?_eq_some_iff.1 h1).1
  refine ⟨i, ?_, rfl⟩
  unfold filG
  simp only
  rw [List.getElem?_map, List.getElem?_range hi, Option.map_some, List.getD_eq_getElem?_getD, h1]
  simp [h2]
def filK (g : Grd) (f : Spot → Bool) (k : Nat) : List Bool := ((List.range k).map fun i => g.on.getD i false && f (spt g i)) ++ List.replicate (g.on.length - k) false
theorem filK_0 (g : Grd) (f : Spot → Bool) : filK g f 0 = List.replicate g.on.length false := by simp [filK]
theorem filK_end (g : Grd) (f : Spot → Bool) : filK g f g.on.length = (filG g f).on := by simp [filK, filG]
theorem filK_len {g : Grd} {f : Spot → Bool} {k : Nat} (h : k ≤ g.on.length) : (filK g f k).length = g.on.length := by simp [filK]; omega
theorem filK_no {g : Grd} {f : Spot → Bool} {k : Nat} (h : k < g.on.length) (hn : (g.on.getD k false && f (spt g k)) = false) : filK g f (k + 1) = filK g f k := by
 unfold filK
 rw [List.range_succ, List.map_append, List.map_singleton, hn, List.append_assoc]
 congr 1
 rw [show g.on.length - k = (g.on.length - (k + 1)) + 1 by omega, List.replicate_succ]; rfl
theorem filK_yes {g : Grd} {f : Spot → Bool} {k : Nat} (h : k < g.on.length) (hy : (g.on.getD k false && f (spt g k)) = true) : filK g f (k + 1) = (filK g f k).set k true := by
 unfold filK
 rw [List.range_succ, List.map_append, List.map_singleton, hy, List.append_assoc, List.set_append_right _ _ (by simp)]
 congr 1
 rw [show g.on.length - k = (g.on.length - (k + 1)) + 1 by omega, List.replicate_succ]
 simp
end
section
def rE (f : Int → Bool) : Nat → Int → Int
 | 0, c => c
 | n + 1, c => if f (c + 1) = true then rE f n (c + 1) else c
theorem rE_spec {f : Int → Bool} : ∀ {n : Nat} {c : Int}, c ≤ rE f n c ∧ rE f n c ≤ c + n ∧ (∀ j, c < j → j ≤ rE f n c → f j = true) ∧ (rE f n c < c + n → f (rE f n c + 1) = false)
 | 0, c => ⟨Int.le_refl _, by simp [rE], fun j h1 h2 => by simp only [rE] at h2; omega, fun h => by simp only [rE] at h; omega⟩
 | n + 1, c => by
  obtain ⟨h1, h2, h3, h4⟩ := rE_spec (f := f) (n := n) (c := c + 1)
  rw [rE]
  split
  ·rename_i hf
   refine ⟨by omega, by omega, fun j h5 h6 => ?_, fun h => h4 (by omega)⟩
   by_cases e : j = c + 1
   ·rw [e]; exact hf
   ·exact h3 j (by omega) h6
  ·rename_i hf
   exact ⟨by omega, by omega, fun j h5 h6 => by omega, fun _ => by simpa using hf⟩
abbrev Lin := Int × Int × Int
def lnC (f : Int → Bool) (r c0 : Int) (W n : Nat) : List Lin := ((List.range n).filter fun k => f (c0 + (k : Nat)) && !f (c0 + (k : Nat) - 1)).map fun k => (r, c0 + (k : Nat), rE f (W - 1 - k) (c0 + (k : Nat)))
theorem lnC_0 (f : Int → Bool) (r c0 : Int) (W : Nat) : lnC f r c0 W 0 = [] := by simp [lnC]
theorem lnC_no {f : Int → Bool} {r c0 : Int} {W n : Nat} (h : (f (c0 + (n : Nat)) && !f (c0 + (n : Nat) - 1)) = false) : lnC f r c0 W (n + 1) = lnC f r c0 W n := by
 unfold lnC
 rw [List.range_succ, List.filter_append, List.map_append]
 simp only [List.filter_cons, List.filter_nil, h]
 simp
theorem lnC_yes {f : Int → Bool} {r c0 : Int} {W n : Nat} (h : (f (c0 + (n : Nat)) && !f (c0 + (n : Nat) - 1)) = true) : lnC f r c0 W (n + 1) = lnC f r c0 W n ++ [(r, c0 + (n : Nat), rE f (W - 1 - n) (c0 + (n : Nat)))] := by
 unfold lnC
 rw [List.range_succ, List.filter_append, List.map_append]
 simp only [List.filter_cons, List.filter_nil, h]
 simp
theorem lnC_skip {f : Int → Bool} {r c0 : Int} {W k : Nat} : ∀ {e : Nat}, k ≤ e → (∀ j : Nat, k < j → j ≤ e → f (c0 + (j : Nat) - 1) = true) → lnC f r c0 W (e + 1) = lnC f r c0 W (k + 1)
 | 0, h, _ => by obtain rfl : k = 0 := by omega
                 rfl
 | e + 1, h, hj => by
  by_cases ek : k = e + 1
  ·rw [ek]
  ·rw [lnC_no (by rw [hj (e + 1) (by omega) (by omega)]; simp), lnC_skip (e := e) (by omega) (fun j h1 h2 => hj j h1 (by omega))]
theorem lnC_len (f : Int → Bool) (r c0 : Int) (W n : Nat) : (lnC f r c0 W n).length ≤ n := by
 unfold lnC
 rw [List.length_map]
 have := List.length_filter_le (fun k : Nat => f (c0 + (k : Nat)) && !f (c0 + (k : Nat) - 1)) (List.range n)
 simpa using this
def lnS (f : Int → Int → Bool) (y x : Int) (W : Nat) (ev ph : Int) (n : Nat) : List Lin := (List.range n).flatMap fun i => if ((y + (i : Nat)) - ph).tmod ev ≠ 0 then [] else lnC (f (y + (i : Nat))) (y + (i : Nat)) x W W
theorem lnS_succ (f : Int → Int → Bool) (y x : Int) (W : Nat) (ev ph : Int) (n : Nat) : lnS f y x W ev ph (n + 1) = lnS f y x W ev ph n ++ (if ((y + (n : Nat)) - ph).tmod ev ≠ 0 then [] else lnC (f (y + (n : Nat))) (y + (n : Nat)) x W W) := by
 unfold lnS
 rw [List.range_succ, List.flatMap_append]
 simp
theorem lnS_len (f : Int → Int → Bool) (y x : Int) (W : Nat) (ev ph : Int) : ∀ n, (lnS f y x W ev ph n).length ≤ n * W
 | 0 => by simp [lnS]
 | n + 1 => by
  rw [lnS_succ, List.length_append, Nat.succ_mul]
  have h1 := lnS_len f y x W ev ph n
  have h2 := lnC_len (f (y + (n : Nat))) (y + (n : Nat)) x W W
  split
  ·simp; omega
  ·omega
def atQ (g : Grd) (q r c : Int) : Bool := if q = 1 then atG g r c else atG g c r
def yQ (g : Grd) (q : Int) : Int := if q = 1 then g.x else g.y
def xQ (g : Grd) (q : Int) : Int := if q = 1 then g.y else g.x
def hQ (g : Grd) (q : Int) : Nat := if q = 1 then g.w else g.h
def wQ (g : Grd) (q : Int) : Nat := if q = 1 then g.h else g.w
def linG (g : Grd) (q ev ph : Int) : List Lin := lnS (atQ g q) (yQ g q) (xQ g q) (wQ g q) ev ph (hQ g q)
theorem atQ_out {g : Grd} {q r c : Int} (h : c < xQ g q ∨ xQ g q + (wQ g q : Nat) ≤ c) : atQ g q r c = false := by
 unfold atQ xQ wQ at *
 split
 ·rename_i e
  rw [if_pos e, if_pos e] at h
  unfold atG
  simp only [Bool.and_eq_false_iff, decide_eq_false_iff_not]
  left
  rcases h with h | h
  ·left; right; omega
  ·right; omega
 ·rename_i e
  rw [if_neg e, if_neg e] at h
  unfold atG
  simp only [Bool.and_eq_false_iff, decide_eq_false_iff_not]
  left; left; left
  rcases h with h | h
  ·left; omega
  ·right; omega
theorem atQ_in {g : Grd} {q r c : Int} (h : atQ g q r c = true) : xQ g q ≤ c ∧ c < xQ g q + (wQ g q : Nat) := by
 refine ⟨?_, ?_⟩ <;> apply Classical.byContradiction <;> intro e
 ·rw [atQ_out (.inl (by omega))] at h; cases h
 ·rw [atQ_out (.inr (by omega))] at h; cases h
def ctr (st q r c : Int) : Spot := if q = 1 then (r * st + st / 2, c * st + st / 2) else (c * st + st / 2, r * st + st / 2)
def ptsL (st q : Int) (l : Lin) : List Spot := if l.2.2 ≠ l.2.1 then [ctr st q l.1 l.2.1, ctr st q l.1 l.2.2] else [ctr st q l.1 l.2.1]
end
end Go.Proofs.YtfilfijammemfaaGreatDoor
