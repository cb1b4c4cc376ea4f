/- Grids, by value: new ones, what is covered, covering. -/
import Derived.Test.YtniolldgidgffaaGreatDoorQat
import Derived.Test.YtniolldgidgffaaGreatDoorQaq
set_option linter.unusedSimpArgs false
set_option linter.unusedVariables false
/- Cells, plain: what is wrong with them; the normal form is right. -/
namespace Go.Proofs.YtniolldgidgffaaGreatDoor
def okB2 (r : List UInt8) : Bool := r.all fun b => b == 35 || b == 46
def rowsF (w : Nat) : List (List UInt8) → Int
 | [] => 0
 | r :: rs => if r.length ≠ w then 3 else if okB2 r = false then 9 else rowsF w rs
def wid (rows : List (List UInt8)) : Nat := (rows.headD []).length
def stepB (st : Int) : Bool := decide (st < 2) || decide (10000 < st) || decide (st.tmod 2 ≠ 0)
def tightB (rows : List (List UInt8)) : Bool := (rows.headD []).contains 35 && (rows.getLastD []).contains 35 && (rows.any fun r => r[0]? == some 35) && (rows.any fun r => r[wid rows - 1]? == some 35)
def farB (n : Int) : Bool := decide (n < -2000000) || decide (2000000 < n)
def celF (c : Cel) : Int :=
 if stepB c.st = true then 1
 else if c.rows = [] ∧ (c.x ≠ 0 ∨ c.y ≠ 0) then 3
 else if 200 < c.rows.length then 2
 else if c.rows = [] then 0
 else if rowsF (wid c.rows) c.rows ≠ 0 then rowsF (wid c.rows) c.rows
 else if 200 < wid c.rows then 2
 else if (farB c.x || farB c.y) = true then 1
 else if c.x.tmod c.st ≠ 0 ∨ c.y.tmod c.st ≠ 0 ∨ tightB c.rows = false then 3
 else 0
theorem rowsF_0 {w : Nat} : ∀ {rows : List (List UInt8)}, rowsF w rows = 0 ↔ ∀ r ∈ rows, r.length = w ∧ okB2 r = true
 | [] => by simp [rowsF]
 | r :: rs => by
  have ih := rowsF_0 (w := w) (rows := rs)
  unfold rowsF
  split
  ·rename_i h; simp [h]
  ·rename_i h
   split
   ·rename_i h2; simp [h2]
   ·rename_i h2; rw [ih]; simp at h h2; simp [h, h2]
theorem stepB_f {st : Int} : stepB st = false ↔ 2 ≤ st ∧ st ≤ 10000 ∧ st.tmod 2 = 0 := by
 unfold stepB
 simp only [Bool.or_eq_false_iff, decide_eq_false_iff_not]
 constructor
 ·rintro ⟨⟨h1, h2⟩, h3⟩; exact ⟨by omega, by omega, by omega⟩
 ·rintro ⟨h1, h2, h3⟩; exact ⟨⟨by omega, by omega⟩, by omega⟩
structure RCel (c : Cel) : Prop where
 st : 2 ≤ c.st ∧ c.st ≤ 10000 ∧ c.st.tmod 2 = 0
 emp : c.rows = [] → c.x = 0 ∧ c.y = 0
 h : c.rows.length ≤ 200
 w : wid c.rows ≤ 200
 row : ∀ r ∈ c.rows, r.length = wid c.rows ∧ okB2 r = true
 far : (-2000000 ≤ c.x ∧ c.x ≤ 2000000) ∧ (-2000000 ≤ c.y ∧ c.y ≤ 2000000)
 mod : c.x.tmod c.st = 0 ∧ c.y.tmod c.st = 0
 tight : c.rows ≠ [] → tightB c.rows = true
theorem farB_f {n : Int} : farB n = false ↔ -2000000 ≤ n ∧ n ≤ 2000000 := by
 unfold farB
 simp only [Bool.or_eq_false_iff, decide_eq_false_iff_not]
 omega
theorem celF_0 {c : Cel} : celF c = 0 ↔ RCel c := by
 constructor
 ·intro h
  unfold celF at h
  split at h
  ·cases h
  rename_i h1
  split at h
  ·cases h
  rename_i h2
  split at h
  ·cases h
  rename_i h3
  have hst := stepB_f.1 (by simpa using h1)
  split at h
  ·rename_i h4
   have hxy : c.x = 0 ∧ c.y = 0 := by
    refine ⟨?_, ?_⟩
    ·apply Classical.byContradiction; intro e; exact h2 ⟨h4, .inl e⟩
    ·apply Classical.byContradiction; intro e; exact h2 ⟨h4, .inr e⟩
   exact ⟨hst, fun _ => hxy, by omega, by rw [h4]; simp [wid], fun r hr => (by rw [h4] at hr; cases hr), by omega, by rw [hxy.1, hxy.2]; exact ⟨Int.zero_tmod _, Int.zero_tmod _⟩, fun e => absurd h4 e⟩
  rename_i h4
  split at h
  ·rename_i h5; exact absurd h h5
  rename_i h5
  split at h
  ·cases h
  rename_i h6
  split at h
  ·cases h
  rename_i h7
  split at h
  ·cases h
  rename_i h8
  have h7' : (farB c.x || farB c.y) = false := by simpa using h7
  rw [Bool.or_eq_false_iff] at h7'
  refine ⟨hst, fun e => absurd e h4, by omega, by omega, rowsF_0.1 (by omega), ⟨farB_f.1 h7'.1, farB_f.1 h7'.2⟩, ⟨?_, ?_⟩, fun _ => ?_⟩
  ·apply Classical.byContradiction; intro e; exact h8 (.inl e)
  ·apply Classical.byContradiction; intro e; exact h8 (.inr (.inl e))
  ·cases e : tightB c.rows with
   | true => rfl
   | false => exact absurd (.inr (.inr e)) h8
 ·rintro ⟨h1, h2, h3, h4, h5, h6, h7, h8⟩
  unfold celF
  rw [if_neg (by rw [stepB_f.2 h1]; simp)]
  by_cases e : c.rows = []
  ·rw [if_neg (by rintro ⟨_, g⟩; obtain ⟨k1, k2⟩ := h2 e; rcases g with g | g <;> contradiction), if_neg (by omega), if_pos e]
  ·rw [if_neg (by rintro ⟨g, _⟩; exact e g), if_neg (by omega), if_neg e, if_neg (by rw [rowsF_0.2 h5]; simp), if_neg (by omega), if_neg (by rw [farB_f.2 h6.1, farB_f.2 h6.2]; simp), if_neg]
   rintro (g | g | g)
   ·exact g h7.1
   ·exact g h7.2
   ·rw [h8 e] at g; cases g
theorem RCel.at {c : Cel} (h : RCel c) : c.x.tdiv c.st * c.st = c.x ∧ c.y.tdiv c.st * c.st = c.y :=
 ⟨Int.tdiv_mul_cancel (Int.dvd_of_tmod_eq_zero h.mod.1), Int.tdiv_mul_cancel (Int.dvd_of_tmod_eq_zero h.mod.2)⟩
theorem covL_in {c : Cel} (h : RCel c) {p : Spot} (hp : p ∈ covL c) : c.x.tdiv c.st ≤ p.1 ∧ p.1 ≤ c.x.tdiv c.st + (wid c.rows - 1 : Nat) ∧ c.y.tdiv c.st ≤ p.2 ∧ p.2 ≤ c.y.tdiv c.st + (c.rows.length - 1 : Nat) ∧ 0 < wid c.rows ∧ 0 < c.rows.length := by
 obtain ⟨i, k, r, h1, h2, rfl⟩ := hitC_mem.1 hp
 have hi := (List.getElem?_eq_some_iff.1 h1).1
 have hk := (List.getElem?_eq_some_iff.1 h2).1
 rw [(h.row r (List.mem_of_getElem? h1)).1] at hk
 refine ⟨?_, ?_, ?_, ?_, by omega, by omega⟩ <;> simp only <;> omega
theorem okB2_rowB (L : List Spot) (x y : Int) (w : Nat) : okB2 (rowB L x y w) = true := by
 unfold okB2 rowB
 rw [List.all_eq_true]
 intro b hb
 obtain ⟨k, _, rfl⟩ := List.mem_map.1 hb
 split <;> rfl
theorem rowB_len (L : List Spot) (x y : Int) (w : Nat) : (rowB L x y w).length = w := by simp [rowB]
theorem rowB_at {L : List Spot} {x y : Int} {w k : Nat} (hk : k < w) (h : (x + (k : Nat), y) ∈ L) : (rowB L x y w)[k]? = some 35 := by
 unfold rowB
 rw [List.getElem?_map, List.getElem?_range hk]
 simp [h]
theorem celN_ok {st : Int} {L : List Spot} (hst : 2 ≤ st ∧ st ≤ 10000 ∧ st.tmod 2 = 0) (hw : x1 L - x0 L ≤ 199) (hh : y1 L - y0 L ≤ 199) (hx : -2000000 ≤ x0 L * st ∧ x0 L * st ≤ 2000000) (hy : -2000000 ≤ y0 L * st ∧ y0 L * st ≤ 2000000) : RCel (celN st L) := by
 unfold celN
 split
 ·exact ⟨hst, fun _ => ⟨rfl, rfl⟩, by simp, by simp [wid], fun r h => (by cases h), by simp only; omega, ⟨Int.zero_tmod _, Int.zero_tmod _⟩, fun e => absurd rfl e⟩
 rename_i hL
 obtain ⟨⟨p1, hp1, e1⟩, ⟨p2, hp2, e2⟩, ⟨p3, hp3, e3⟩, ⟨p4, hp4, e4⟩⟩ := x0_at hL
 have b1 := x0_le hp1
 have b2 := x0_le hp2
 have b3 := x0_le hp3
 have b4 := x0_le hp4
 obtain ⟨n, hn⟩ : ∃ n : Nat, (y1 L - y0 L + 1).toNat = n + 1 := ⟨(y1 L - y0 L).toNat, by omega⟩
 obtain ⟨m, hm⟩ : ∃ m : Nat, (x1 L - x0 L + 1).toNat = m + 1 := ⟨(x1 L - x0 L).toNat, by omega⟩
 have hne : ((List.range (n + 1)).map fun i => rowB L (x0 L) (y0 L + (i : Nat)) (m + 1)) ≠ [] := by simp
 have hwid : wid ((List.range (n + 1)).map fun i => rowB L (x0 L) (y0 L + (i : Nat)) (m + 1)) = m + 1 := by
  unfold wid
  rw [List.range_succ_eq_map]
  simp [rowB_len]
 have hrow : ∀ i : Nat, i < n + 1 → rowB L (x0 L) (y0 L + (i : Nat)) (m + 1) ∈ ((List.range (n + 1)).map fun i => rowB L (x0 L) (y0 L + (i : Nat)) (m + 1)) := fun i hi => List.mem_map.2 ⟨i, List.mem_range.2 hi, rfl⟩
 rw [hn, hm]
 refine ⟨hst, fun e => absurd e hne, by simp only [List.length_map, List.length_range]; omega, by rw [hwid]; omega, fun r hr => ?_, ⟨hx, hy⟩, ⟨Int.mul_tmod_left _ _, Int.mul_tmod_left _ _⟩, fun _ => ?_⟩
 ·obtain ⟨i, _, rfl⟩ := List.mem_map.1 hr
  rw [hwid]
  exact ⟨rowB_len _ _ _ _, okB2_rowB _ _ _ _⟩
 ·unfold tightB
  rw [hwid]
  have hat : ∀ p ∈ L, ∀ i k : Nat, p = (x0 L + (k : Nat), y0 L + (i : Nat)) → k < m + 1 → (rowB L (x0 L) (y0 L + (i : Nat)) (m + 1))[k]? = some 35 := fun p hp i k e hk => rowB_at hk (e ▸ hp)
  simp only [Bool.and_eq_true, List.any_eq_true, List.contains_iff_mem]
  refine ⟨⟨⟨?_, ?_⟩, ?_⟩, ?_⟩
  ·rw [List.range_succ_eq_map]
   simp only [List.map_cons, List.headD_cons]
   exact List.mem_of_getElem? (hat p3 hp3 0 (p3.1 - x0 L).toNat (by ext <;> simp <;> omega) (by omega))
  ·rw [List.range_succ]
   simp only [List.map_append, List.map_cons, List.map_nil, List.getLastD_concat]
   exact List.mem_of_getElem? (hat p4 hp4 n (p4.1 - x0 L).toNat (by ext <;> simp <;> omega) (by omega))
  ·exact ⟨_, hrow (p1.2 - y0 L).toNat (by omega), by rw [hat p1 hp1 _ 0 (by ext <;> simp <;> omega) (by omega)]; rfl⟩
  ·exact ⟨_, hrow (p2.2 - y0 L).toNat (by omega), by rw [Nat.add_sub_cancel, hat p2 hp2 _ m (by ext <;> simp <;> omega) (by omega)]; rfl⟩
def normC (st : Int) (L : List Spot) : Cel × Int :=
 if L = [] then (⟨st, 0, 0, []⟩, 0)
 else if 199 < x1 L - x0 L ∨ 199 < y1 L - y0 L then (⟨0, 0, 0, []⟩, 12)
 else if celF (celN st L) ≠ 0 then (⟨0, 0, 0, []⟩, celF (celN st L))
 else (celN st L, 0)
theorem normC_mem {st : Int} {L L' : List Spot} (h : ∀ p, p ∈ L ↔ p ∈ L') : normC st L = normC st L' := by
 have hc : ∀ x, x ∈ cols L ↔ x ∈ cols L' := fun x => by simp only [cols, List.mem_map, h]
 have hr : ∀ x, x ∈ rws L ↔ x ∈ rws L' := fun x => by simp only [rws, List.mem_map, h]
 have e : (L = []) ↔ (L' = []) := by rw [List.eq_nil_iff_forall_not_mem, List.eq_nil_iff_forall_not_mem]; exact forall_congr' fun p => not_congr (h p)
 unfold normC
 rw [celN_mem h]
 unfold x0 x1 y0 y1
 simp only [mnL_mem hc, mxL_mem hc, mnL_mem hr, mxL_mem hr, e]
structure NCel (c : Cel) : Prop where
 r : RCel c
 x : -10000 ≤ c.x ∧ c.x ≤ 10000
 y : -10000 ≤ c.y ∧ c.y ≤ 10000
theorem normC_ok {c : Cel} (h : NCel c) {L : List Spot} (hL : ∀ p ∈ L, p ∈ covL c) : normC c.st L = (celN c.st L, 0) ∧ RCel (celN c.st L) := by
 by_cases e : L = []
 ·subst e
  refine ⟨rfl, celN_ok h.r.st (by decide) (by decide) ?_ ?_⟩ <;> simp [x0, y0, mnL, cols, rws]
 obtain ⟨⟨p1, hp1, e1⟩, ⟨p2, hp2, e2⟩, ⟨p3, hp3, e3⟩, ⟨p4, hp4, e4⟩⟩ := x0_at e
 obtain ⟨hx, hy⟩ := h.r.at
 have hst := h.r.st
 have q1 := covL_in h.r (hL p1 hp1)
 have q2 := covL_in h.r (hL p2 hp2)
 have q3 := covL_in h.r (hL p3 hp3)
 have q4 := covL_in h.r (hL p4 hp4)
 have hw := h.r.w
 have hh := h.r.h
 have h1 := h.x
 have h2 := h.y
 have mul : ∀ a b : Int, a ≤ b → a * c.st ≤ b * c.st := fun a b hab => Int.mul_le_mul_of_nonneg_right hab (by omega)
 have w1 : x1 L - x0 L ≤ 199 := by omega
 have w2 : y1 L - y0 L ≤ 199 := by omega
 have m1 := mul _ _ q1.1
 have m2 := mul _ _ (show p1.1 ≤ c.x.tdiv c.st + 199 by omega)
 have m3 := mul _ _ q3.2.2.1
 have m4 := mul _ _ (show p3.2 ≤ c.y.tdiv c.st + 199 by omega)
 rw [Int.add_mul, hx] at m2
 rw [Int.add_mul, hy] at m4
 rw [hx] at m1
 rw [hy] at m3
 have hr := celN_ok hst w1 w2 (by rw [← e1]; omega) (by rw [← e3]; omega)
 refine ⟨?_, hr⟩
 unfold normC
 rw [if_neg e, if_neg (by omega), if_neg (by rw [celF_0.2 hr]; simp)]
end Go.Proofs.YtniolldgidgffaaGreatDoor

/- Grids, plain. -/
namespace Go.Proofs.YtniolldgidgffaaGreatDoor
structure Grd where
 st : Int
 x : Int
 y : Int
 w : Nat
 h : Nat
 on : List Bool
def spt (g : Grd) (i : Nat) : Spot := (g.x + (i % g.w : Nat), g.y + (i / g.w : Nat))
def covK (g : Grd) (n : Nat) : List Spot := ((List.range n).filter fun i => g.on.getD i false).map (spt g)
def covG (g : Grd) : List Spot := covK g g.on.length
theorem covK_snoc (g : Grd) (n : Nat) : covK g (n + 1) = covK g n ++ (if g.on.getD n false = true then [spt g n] else []) := by
 unfold covK
 rw [List.range_succ, List.filter_append, List.map_append]
 congr 1
 simp only [List.filter_cons, List.filter_nil]
 split <;> rfl
theorem covG_mem {g : Grd} {p : Spot} : p ∈ covG g ↔ ∃ i : Nat, g.on[i]? = some true ∧ p = spt g i := by
 unfold covG covK
 simp only [List.mem_map, List.mem_filter, List.mem_range]
 constructor
 ·rintro ⟨i, ⟨h1, h2⟩, rfl⟩
  refine ⟨i, ?_, rfl⟩
  rw [List.getD_eq_getElem?_getD, List.getElem?_eq_getElem h1] at h2
  rw [List.getElem?_eq_getElem h1]
  simpa using h2
 ·rintro ⟨i, h1, rfl⟩
  refine ⟨i, ⟨(List.getElem?_eq_some_iff.1 h1).1, ?_⟩, rfl⟩
  rw [List.getD_eq_getElem?_getD, h1]; rfl
theorem spt_at {g : Grd} {a b : Nat} (ha : a < g.w) : spt g (b * g.w + a) = (g.x + (a : Nat), g.y + (b : Nat)) := by
 unfold spt
 have h1 : (b * g.w + a) % g.w = a := by rw [Nat.mul_comm, Nat.mul_add_mod]; exact Nat.mod_eq_of_lt ha
 have h2 : (b * g.w + a) / g.w = b := by rw [Nat.mul_comm, Nat.mul_add_div (by omega), Nat.div_eq_of_lt ha]; omega
 rw [h1, h2]
def atG (g : Grd) (a b : Int) : Bool := decide (0 ≤ a - g.x) && decide (a - g.x < g.w) && decide (0 ≤ b - g.y) && decide (b - g.y < g.h) && g.on.getD ((b - g.y).toNat * g.w + (a - g.x).toNat) false
theorem atG_iff {g : Grd} (hl : g.on.length = g.w * g.h) {a b : Int} : atG g a b = true ↔ (a, b) ∈ covG g := by
 rw [covG_mem]
 unfold atG
 simp only [Bool.and_eq_true, decide_eq_true_iff]
 constructor
 ·rintro ⟨⟨⟨⟨h1, h2⟩, h3⟩, h4⟩, h5⟩
  refine ⟨(b - g.y).toNat * g.w + (a - g.x).toNat, ?_, ?_⟩
  ·rw [List.getD_eq_getElem?_getD] at h5
   cases e : g.on[(b - g.y).toNat * g.w + (a - g.x).toNat]? with
   | none => rw [e] at h5; cases h5
   | some v => rw [e] at h5; simp only [Option.getD_some] at h5; rw [h5]
  ·rw [spt_at (by omega)]
   ext <;> simp only <;> omega
 ·rintro ⟨i, h1, h2⟩
  have hi := (List.getElem?_eq_some_iff.1 h1).1
  rw [hl] at hi
  have hw : 0 < g.w := by
   rcases Nat.eq_zero_or_pos g.w with e | e
   ·rw [e] at hi; simp at hi
   ·exact e
  have hm := Nat.mod_lt i hw
  have hd : i / g.w < g.h := Nat.div_lt_of_lt_mul hi
  unfold spt at h2
  obtain ⟨e1, e2⟩ := Prod.mk.inj h2
  have k0 := Nat.div_add_mod i g.w
  generalize i / g.w = q at hd e2 k0 ⊢
  generalize i % g.w = r at hm e1 k0 ⊢
  refine ⟨⟨⟨⟨by omega, by omega⟩, by omega⟩, by omega⟩, ?_⟩
  have k1 : (b - g.y).toNat = q := by omega
  have k2 : (a - g.x).toNat = r := by omega
  rw [k1, k2, Nat.mul_comm, k0, List.getD_eq_getElem?_getD, h1]; rfl
theorem atG_eq {g : Grd} (hl : g.on.length = g.w * g.h) (a b : Int) : atG g a b = decide ((a, b) ∈ covG g) := by
 rw [Bool.eq_iff_iff, atG_iff hl, decide_eq_true_iff]
def grdOf (c : Cel) : Grd := if c.rows = [] then ⟨c.st, 0, 0, 0, 0, []⟩ else ⟨c.st, c.x.tdiv c.st, c.y.tdiv c.st, wid c.rows, c.rows.length, c.rows.flatten.map (· == 35)⟩
theorem flat_len {w : Nat} : ∀ {rows : List (List UInt8)}, (∀ r ∈ rows, r.length = w) → rows.flatten.length = w * rows.length
 | [], _ => by simp
 | r :: rs, h => by
  rw [List.flatten_cons, List.length_append, flat_len (fun q hq => h q (List.mem_cons_of_mem _ hq)), h r List.mem_cons_self, List.length_cons, Nat.mul_add, Nat.mul_one, Nat.add_comm]
theorem flat_at {w : Nat} : ∀ {rows : List (List UInt8)}, (∀ r ∈ rows, r.length = w) → ∀ {i k : Nat}, k < w → i < rows.length → rows.flatten[i * w + k]? = (rows[i]?.getD [])[k]?
 | [], _, i, k, _, h => by simp at h
 | r :: rs, h, i, k, hk, hi => by
  have hr := h r List.mem_cons_self
  rw [List.flatten_cons]
  cases i with
  | zero => rw [Nat.zero_mul, Nat.zero_add, List.getElem?_append_left (by omega)]; rfl
  | succ i =>
   have := flat_at (fun q hq => h q (List.mem_cons_of_mem _ hq)) hk (show i < rs.length by simpa using hi)
   rw [List.getElem?_append_right (by rw [hr, Nat.succ_mul]; omega)]
   rw [show (i + 1) * w + k - r.length = i * w + k by rw [hr, Nat.succ_mul]; omega, this]
   rfl
theorem grdOf_len {c : Cel} (h : RCel c) : (grdOf c).on.length = (grdOf c).w * (grdOf c).h := by
 unfold grdOf
 split
 ·rfl
 ·simp only [List.length_map]
  exact flat_len fun r hr => (h.row r hr).1
theorem grdOf_cov {c : Cel} (h : RCel c) {p : Spot} : p ∈ covG (grdOf c) ↔ p ∈ covL c := by
 rw [covG_mem]
 unfold covL
 rw [hitC_mem]
 have hrow : ∀ r ∈ c.rows, r.length = wid c.rows := fun r hr => (h.row r hr).1
 unfold grdOf
 split
 ·rename_i e
  rw [e]
  simp
 rename_i e
 constructor
 ·rintro ⟨i, h1, rfl⟩
  simp only at h1 ⊢
  rw [List.getElem?_map] at h1
  obtain ⟨b, hb, hb2⟩ := Option.map_eq_some_iff.1 h1
  have hi := (List.getElem?_eq_some_iff.1 hb).1
  rw [flat_len hrow] at hi
  have hw : 0 < wid c.rows := by
   rcases Nat.eq_zero_or_pos (wid c.rows) with e | e
   ·rw [e] at hi; simp at hi
   ·exact e
  have hd : i / wid c.rows < c.rows.length := Nat.div_lt_of_lt_mul hi
  have hm := Nat.mod_lt i hw
  have hx := flat_at hrow hm hd
  rw [Nat.mul_comm, Nat.div_add_mod, hb, List.getElem?_eq_getElem hd] at hx
  refine ⟨i / wid c.rows, i % wid c.rows, c.rows[i / wid c.rows], List.getElem?_eq_getElem hd, ?_, rfl⟩
  rw [Option.getD_some] at hx
  rw [← hx]
  have : b = 35 := by simpa using hb2
  rw [this]
 ·rintro ⟨i, k, r, h1, h2, rfl⟩
  have hi := (List.getElem?_eq_some_iff.1 h1).1
  have hk := (List.getElem?_eq_some_iff.1 h2).1
  rw [hrow r (List.mem_of_getElem? h1)] at hk
  refine ⟨i * wid c.rows + k, ?_, ?_⟩
  ·simp only
   rw [List.getElem?_map, flat_at hrow hk hi, h1, Option.getD_some, h2]; rfl
  ·exact (spt_at (g := ⟨c.st, c.x.tdiv c.st, c.y.tdiv c.st, wid c.rows, c.rows.length, c.rows.flatten.map (· == 35)⟩) hk).symm
def filG (g : Grd) (f : Spot → Bool) : Grd := { g with on := (List.range g.on.length).map fun i => g.on.getD i false && f (spt g i) }
theorem filG_cov {g : Grd} {f : Spot → Bool} {p : Spot} : p ∈ covG (filG g f) ↔ p ∈ covG g ∧ f p = true := by
 rw [covG_mem, covG_mem]
 constructor
 ·rintro ⟨i, h1, rfl⟩
  unfold filG at h1
  simp only at h1
  rw [List.getElem?_map] at h1
  obtain ⟨j, hj, h2⟩ := Option.map_eq_some_iff.1 h1
  obtain ⟨hlt, rfl⟩ := List.getElem?_eq_some_iff.1 hj
  simp only [List.getElem_range, Bool.and_eq_true] at h2
  simp only [List.length_range] at hlt
  refine ⟨⟨i, ?_, rfl⟩, h2.2⟩
  have := h2.1
  rw [List.getD_eq_getElem?_getD, List.getElem?_eq_getElem hlt] at this
  rw [List.getElem?_eq_getElem hlt]
  simpa using this
 ·rintro ⟨⟨i, h1, rfl⟩, h2⟩
  have hi := (List.getElem?_eq_some_iff.1 h1).1
  refine ⟨i, ?_, rfl⟩
  unfold filG
  simp only
  rw [List.getElem?_map, List.getElem?_range hi, Option.map_some, List.getD_eq_getElem?_getD, h1]
  simp [h2]
def filK (g : Grd) (f : Spot → Bool) (k : Nat) : List Bool := ((List.range k).map fun i => g.on.getD i false && f (spt g i)) ++ List.replicate (g.on.length - k) false
theorem filK_0 (g : Grd) (f : Spot → Bool) : filK g f 0 = List.replicate g.on.length false := by simp [filK]
theorem filK_end (g : Grd) (f : Spot → Bool) : filK g f g.on.length = (filG g f).on := by simp [filK, filG]
theorem filK_len {g : Grd} {f : Spot → Bool} {k : Nat} (h : k ≤ g.on.length) : (filK g f k).length = g.on.length := by simp [filK]; omega
theorem filK_no {g : Grd} {f : Spot → Bool} {k : Nat} (h : k < g.on.length) (hn : (g.on.getD k false && f (spt g k)) = false) : filK g f (k + 1) = filK g f k := by
 unfold filK
 rw [List.range_succ, List.map_append, List.map_singleton, hn, List.append_assoc]
 congr 1
 rw [show g.on.length - k = (g.on.length - (k + 1)) + 1 by omega, List.replicate_succ]; rfl
theorem filK_yes {g : Grd} {f : Spot → Bool} {k : Nat} (h : k < g.on.length) (hy : (g.on.getD k false && f (spt g k)) = true) : filK g f (k + 1) = (filK g f k).set k true := by
 unfold filK
 rw [List.range_succ, List.map_append, List.map_singleton, hy, List.append_assoc, List.set_append_right _ _ (by simp)]
 congr 1
 rw [show g.on.length - k = (g.on.length - (k + 1)) + 1 by omega, List.replicate_succ]
 simp
end Go.Proofs.YtniolldgidgffaaGreatDoor

/- Grids, by value: new ones, what is covered, covering. -/
-- NEWM
namespace Go.Proofs.YtniolldgidgffaaGreatDoor
open Go Go.RowKit
set_option maxRecDepth 100000
abbrev oR (l : List Bool) : List (List CV) := l.map fun b => [B b]
abbrev gRow (g : Grd) (v : Value) : List CV := [I g.st, I g.x, I g.y, I g.w, I g.h, .r v (oR g.on)]
abbrev gV (pv v : Value) (g : Grd) : AV := .c (.p pv (gRow g v))
abbrev gB (st x y : Int) (w h b n : Nat) : OB := .box [.c (I st), .c (I x), .c (I y), .c (I w), .c (I h), .o b 0 n n]
abbrev gArr (n : Nat) (on : List Bool) : OB := .arr 4 1 n (oR on)
theorem cvg {g : AV → Value} {m : List (Option Nat)} {H : List OB} {fz : Bool} {st x y : Int} {w h b b' n : Nat} (hb : m[b']? = some (some b)) : CvL g m H fz [.c (I st), .c (I x), .c (I y), .c (I w), .c (I h), .o b 0 n n] [.c (I st), .c (I x), .c (I y), .c (I w), .c (I h), .o b' 0 n n] :=
 .cons (.c rfl) (.cons (.c rfl) (.cons (.c rfl) (.cons (.c rfl) (.cons (.c rfl) (.cons (.o hb rfl) .nil)))))
theorem u8_eq (b c : UInt8) : decide ((b.toNat : Int) = (c.toNat : Int)) = (b == c) := by
 rw [Bool.eq_iff_iff, decide_eq_true_iff, beq_iff_eq]
 constructor
 ·intro h; exact UInt8.toNat.inj (by omega)
 ·intro h; rw [h]
theorem u8_35 (b : UInt8) : decide ((b.toNat : Int) = 35) = (b == 35) := u8_eq b 35
structure GOk (g : Grd) : Prop where
 len : g.on.length = g.w * g.h
 w : g.w ≤ 1000
 h : g.h ≤ 1000
 x : -10000000 ≤ g.x ∧ g.x ≤ 10000000
 y : -10000000 ≤ g.y ∧ g.y ≤ 10000000
theorem GOk.n {g : Grd} (h : GOk g) : g.on.length ≤ 1000000 := by
 rw [h.len]
 exact Nat.le_trans (Nat.mul_le_mul h.w h.h) (by decide)
theorem oR_rep (n : Nat) : oR (List.replicate n false) = List.replicate n [B false] := by simp [oR]
theorem aret_p {fn : Func} {nl q b k j b' : Nat} {F : Fm} {H : List OB} {Qr : AV → List OB → Prop} (m : List (Option Nat)) (H' : (AV → Value) → List OB) (hr : fn.results = #[.tmp q]) (h : F.lookup q = some (.p b k j)) (hb : m[b']? = some (some b)) (hm : (m.filterMap id).Nodup) (hl : ∀ i, i < nl → m[i]? = some (some i)) (hH : ∀ g, CvH g m H true m (H' g)) (hq : ∀ g, Qr (.p b' k j) (H' g)) : ARet Tryz.prog fn nl Qr .ret F H :=
 aret_of m (fun _ => .p b' k j) H' (by rw [hr]; exact .tmp h .nil) hm hl (fun _ => .p hb) hH hq
theorem aret_fp {fn : Func} {nl q b : Nat} {F : Fm} {H : List OB} {Qr : AV → List OB → Prop} {l : List AV} (m : List (Option Nat)) (row : (AV → Value) → List CV) (H' : List OB) (hr : fn.results = #[.tmp q]) (h : F.lookup q = some (.p b 0 0)) (hH0 : H[b]? = some (.box l)) (hmb : m.contains (some b) = false) (hc : ∀ g, CvL g m H true l ((row g).map .c)) (hm : (m.filterMap id).Nodup) (hl : ∀ i, i < nl → m[i]? = some (some i)) (hH : ∀ g, CvH g m H true m H') (hq : ∀ (v : Value) g, Qr (.c (.p v (row g))) H') : ARet Tryz.prog fn nl Qr .ret F H :=
 aret_of (us := [.p b 0 0]) m (fun g => .c (.p (g (.p b 0 0)) (row g))) (fun _ => H') (by rw [hr]; exact .tmp h .nil) hm hl (fun g => .frzp rfl hH0 (by have := (hc g).both.1; simpa using this) (fun i x u hx hu => (hc g).both.2 i x (.c u) hx (by rw [List.getElem?_map, hu]; rfl)) hmb) hH (fun g => hq _ g)
theorem newgrid_v (st x y : Int) (w h : Nat) (hw : w ≤ 1000) (hh : h ≤ 1000) : ACalls Tryz.prog 121 [.c (I st), .c (I x), .c (I y), .c (I w), .c (I h)] [] fun u H => u = .p 0 0 0 ∧ H = [gB st x y w h 1 (w * h), gArr (w * h) (List.replicate (w * h) false)] := by
 have hm : w * h ≤ 1000000 := Nat.le_trans (Nat.mul_le_mul hw hh) (by decide)
 have hmi : (w : Int) * h = (w * h : Nat) := by simp
 have hmb : 0 ≤ (w : Int) * h ∧ (w : Int) * h ≤ 1000000 := by omega
 refine acalls_of (N := 22) Tryz.func121 rfl rfl (by simp) fun E hE => ?_
 refine WA ?_
 refine WA ?_
 exact aret_p [some 1, some 0] (fun _ => [gB st x y w h 1 (w * h), gArr (w * h) (List.replicate (w * h) false)]) rfl rfl rfl (by decide) (ZNK rfl) (fun _ => .box rfl (.cons (.c rfl) (.cons (.c rfl) (.cons (.c rfl) (.cons (.c rfl) (.cons (.c rfl) (.cons (.o rfl rfl) .nil)))))) (.arr rfl (by rw [oR_rep]) .nil)) (fun _ => ⟨rfl, rfl⟩)
theorem at_v (g : Grd) (pv v : Value) (a b : Int) (hg : GOk g) (ha : -100000000 ≤ a ∧ a ≤ 100000000) (hb : -100000000 ≤ b ∧ b ≤ 100000000) : ACalls Tryz.prog 97 [gV pv v g, .c (I a), .c (I b)] [] fun u H => u = .c (B (atG g a b)) ∧ H = [] := by
 obtain ⟨hlen, hw, hh, hx, hy⟩ := hg
 refine acalls_of (N := 57) Tryz.func97 rfl rfl (by simp) fun E hE => ?_
 refine WA ?_
 refine ZZ ?_
 refine aw_regionT [(0, none), (1, none), (2, none), (3, none), (4, none), (5, none), (6, none), (7, none), (8, none), (9, none), (10, none), (11, none), (12, none), (13, none)] hMixed (by kernel_rfl) ?_
 refine WQ ?_
 by_cases c1 : 0 ≤ a - g.x
 ·by_cases c2 : a - g.x < g.w
  ·by_cases c3 : 0 ≤ b - g.y
   ·by_cases c4 : b - g.y < g.h
    ·obtain ⟨i, hi⟩ : ∃ i : Nat, (i : Int) = b - g.y := ⟨(b - g.y).toNat, by omega⟩
     obtain ⟨k, hk⟩ : ∃ k : Nat, (k : Int) = a - g.x := ⟨(a - g.x).toNat, by omega⟩
     have hlt : i * g.w + k < g.on.length := by
      rw [hlen]
      have : i + 1 ≤ g.h := by omega
      have h2 := Nat.mul_le_mul_right g.w this
      rw [Nat.succ_mul, Nat.mul_comm g.h] at h2
      omega
     have hv : atG g a b = g.on[i * g.w + k] := by
      unfold atG
      rw [decide_eq_true c1, decide_eq_true c2, decide_eq_true c3, decide_eq_true c4, show (b - g.y).toNat = i by omega, show (a - g.x).toNat = k by omega, List.getD_eq_getElem?_getD, List.getElem?_eq_getElem hlt]
      rfl
     have hrow : (oR g.on)[i * g.w + k]? = some [B g.on[i * g.w + k]] := by rw [List.getElem?_map, List.getElem?_eq_getElem hlt]; rfl
     have hpe : (b - g.y) * (g.w : Int) = (i * g.w : Nat) := by rw [← hi]; simp
     have hpb : i * g.w ≤ 1000000 := Nat.le_trans (Nat.mul_le_mul (show i ≤ 1000 by omega) hw) (by decide)
     rw [hv]
     refine ZZ ?_
     refine aw_regionT [(0, none), (1, none), (2, none), (3, none), (4, none), (5, none), (6, none), (7, none), (8, none), (9, none), (10, none), (11, none), (12, none), (13, none), (14, none), (15, none), (16, none), (17, none), (18, none), (19, none), (20, none), (21, none), (22, none), (23, none), (24, none), (25, none), (26, none), (27, none), (28, none), (29, none), (30, none), (31, none), (32, none), (33, none), (34, none), (35, none), (36, none), (37, none), (38, none)] hMixed (by kernel_rfl) ?_
     refine WQ ?_
     exact aret_1 [] _ rfl rfl rfl (by decide) (ZNK rfl) (fun _ => .nil) ⟨rfl, rfl⟩
    ·have hv : atG g a b = false := by unfold atG; rw [decide_eq_false c4]; simp
     rw [hv]
     refine ZZ ?_
     refine aw_regionT [(0, none), (1, none), (2, none), (3, none), (4, none), (5, none), (6, none), (7, none), (8, none), (9, none), (10, none), (11, none), (12, none), (13, none), (14, none), (15, none), (16, none), (17, none), (18, none), (19, none), (20, none), (21, none), (22, none), (23, none), (24, none), (25, none), (26, none), (27, none), (28, none), (29, none), (30, none), (31, none), (32, none), (33, none), (34, none), (35, none), (36, none), (37, none), (38, none)] hMixed (by kernel_rfl) ?_
     refine WQ ?_
     exact aret_1 [] _ rfl rfl rfl (by decide) (ZNK rfl) (fun _ => .nil) ⟨rfl, rfl⟩
   ·have hv : atG g a b = false := by unfold atG; rw [decide_eq_false c3]; simp
    rw [hv]
    refine ZZ ?_
    refine aw_regionT [(0, none), (1, none), (2, none), (3, none), (4, none), (5, none), (6, none), (7, none), (8, none), (9, none), (10, none), (11, none), (12, none), (13, none), (14, none), (15, none), (16, none), (17, none), (18, none), (19, none), (20, none), (21, none), (22, none), (23, none), (24, none), (25, none), (26, none), (27, none), (28, none), (29, none), (30, none), (31, none), (32, none), (33, none), (34, none), (35, none), (36, none), (37, none), (38, none)] hMixed (by kernel_rfl) ?_
    refine WQ ?_
    exact aret_1 [] _ rfl rfl rfl (by decide) (ZNK rfl) (fun _ => .nil) ⟨rfl, rfl⟩
  ·have hv : atG g a b = false := by unfold atG; rw [decide_eq_false c2]; simp
   rw [hv]
   refine ZZ ?_
   refine aw_regionT [(0, none), (1, none), (2, none), (3, none), (4, none), (5, none), (6, none), (7, none), (8, none), (9, none), (10, none), (11, none), (12, none), (13, none), (14, none), (15, none), (16, none), (17, none), (18, none), (19, none), (20, none), (21, none), (22, none), (23, none), (24, none), (25, none), (26, none), (27, none), (28, none), (29, none), (30, none), (31, none), (32, none), (33, none), (34, none), (35, none), (36, none), (37, none), (38, none)] hMixed (by kernel_rfl) ?_
   refine WQ ?_
   exact aret_1 [] _ rfl rfl rfl (by decide) (ZNK rfl) (fun _ => .nil) ⟨rfl, rfl⟩
 ·have hv : atG g a b = false := by unfold atG; rw [decide_eq_false c1]; simp
  rw [hv]
  refine ZZ ?_
  refine aw_regionT [(0, none), (1, none), (2, none), (3, none), (4, none), (5, none), (6, none), (7, none), (8, none), (9, none), (10, none), (11, none), (12, none), (13, none), (14, none), (15, none), (16, none), (17, none), (18, none), (19, none), (20, none), (21, none), (22, none), (23, none), (24, none), (25, none), (26, none), (27, none), (28, none), (29, none), (30, none), (31, none), (32, none), (33, none), (34, none), (35, none), (36, none), (37, none), (38, none)] hMixed (by kernel_rfl) ?_
  refine WQ ?_
  exact aret_1 [] _ rfl rfl rfl (by decide) (ZNK rfl) (fun _ => .nil) ⟨rfl, rfl⟩
end Go.Proofs.YtniolldgidgffaaGreatDoor
