/- Plain law: meshes by their numbers; their faults, boxes, heights, levels and adaptive tops. -/
set_option linter.unusedSimpArgs false
set_option linter.unusedVariables false
/- Plain law: meshes by their numbers; their faults, boxes, heights, levels and adaptive tops. -/
namespace Go.Proofs.YthanangkmjjbaaaGreatDoor
structure Vec3 where
  x : Int
  y : Int
  z : Int
deriving DecidableEq
structure Fac3 where
  a : Int
  b : Int
  c : Int
deriving DecidableEq
structure Sid2 where
  f : Int
  t : Int
deriving DecidableEq
/-- A vertex. -/
def vx (V : List Vec3) (i : Int) : Vec3 := V.getD i.toNat ⟨0, 0, 0⟩
def sub3 (a b : Vec3) : Vec3 := ⟨a.x - b.x, a.y - b.y, a.z - b.z⟩
def crs (a b : Vec3) : Vec3 := ⟨a.y * b.z - a.z * b.y, a.z * b.x - a.x * b.z, a.x * b.y - a.y * b.x⟩
def nrm (V : List Vec3) (f : Fac3) : Vec3 := crs (sub3 (vx V f.b) (vx V f.a)) (sub3 (vx V f.c) (vx V f.a))
def farI (n : Int) : Bool := decide (n < -100000) || decide (100000 < n)
def farV (v : Vec3) : Bool := farI v.x || farI v.y || farI v.z
def outI (V : List Vec3) (i : Int) : Bool := decide (i < 0) || decide ((V.length : Int) ≤ i)
/-- What is wrong with a face. -/
def ffR (V : List Vec3) (f : Fac3) : Int := if (outI V f.a || outI V f.b || outI V f.c) = true then 8 else if nrm V f = ⟨0, 0, 0⟩ then 3 else 0
def ffP (V : List Vec3) (f : Fac3) : Int := if (outI V f.a || outI V f.b || outI V f.c) = true then 8 else if f.a = f.b ∨ f.b = f.c ∨ f.c = f.a ∨ nrm V f = ⟨0, 0, 0⟩ then 3 else 0
theorem mul_self_sub (a b : Int) : a * b - b * a = 0 := by rw [Int.mul_comm]; omega
theorem ffP_R (V : List Vec3) (f : Fac3) : ffP V f = ffR V f := by
  unfold ffP ffR
  split
  · rfl
  · have h : (f.a = f.b ∨ f.b = f.c ∨ f.c = f.a ∨ nrm V f = ⟨0, 0, 0⟩) ↔ nrm V f = ⟨0, 0, 0⟩ := by
      refine ⟨fun h => ?_, fun h => .inr (.inr (.inr h))⟩
      rcases h with h | h | h | h
      · simp only [nrm, sub3, crs, h, Int.sub_self, Int.zero_mul, Int.mul_zero]
      · simp only [nrm, sub3, crs, h, mul_self_sub]
      · simp only [nrm, sub3, crs, h, Int.sub_self, Int.zero_mul, Int.mul_zero]
      · exact h
    simp only [h]
def sds (f : Fac3) : List Sid2 := [⟨f.a, f.b⟩, ⟨f.b, f.c⟩, ⟨f.c, f.a⟩]
/-- A side is there twice. -/
def dupS : List Sid2 → List Sid2 → Bool
  | _, [] => false
  | acc, s :: l => acc.contains s || dupS (acc ++ [s]) l
def fst0 : List Int → Int
  | [] => 0
  | e :: l => if e = 0 then fst0 l else e
/-- What is wrong with a mesh. -/
def mshF (V : List Vec3) (F : List Fac3) : Int :=
  if F = [] then 8 else if 1000 < V.length ∨ 1000 < F.length then 2 else if V.any farV = true then 1 else
  if fst0 (F.map (ffR V)) ≠ 0 then fst0 (F.map (ffR V)) else if dupS [] (F.flatMap sds) = true then 6 else 0
theorem fst0_app : ∀ (a b : List Int), fst0 (a ++ b) = if fst0 a = 0 then fst0 b else fst0 a
  | [], b => by simp [fst0]
  | e :: a, b => by
    simp only [List.cons_append, fst0]
    split
    · exact fst0_app a b
    · rename_i h; simp [h]
theorem fst0_zero : ∀ {l : List Int}, fst0 l = 0 → ∀ e ∈ l, e = 0
  | [], _, e, h => by cases h
  | x :: l, h, e, he => by
    unfold fst0 at h
    split at h
    · rcases List.mem_cons.1 he with rfl | he
      · assumption
      · exact fst0_zero h e he
    · contradiction
/-- A right mesh. -/
structure MOk (V : List Vec3) (F : List Fac3) : Prop where
  ne : F ≠ []
  lv : V.length ≤ 1000
  lf : F.length ≤ 1000
  far : ∀ v ∈ V, farV v = false
  face : ∀ f ∈ F, ffR V f = 0
  dup : dupS [] (F.flatMap sds) = false
theorem mok_of {V : List Vec3} {F : List Fac3} (h : mshF V F = 0) : MOk V F := by
  unfold mshF at h
  split at h
  · cases h
  · rename_i h1
    split at h
    · cases h
    · rename_i h2
      split at h
      · cases h
      · rename_i h3
        split at h
        · rename_i h4; exact absurd h h4
        · rename_i h4
          split at h
          · cases h
          · rename_i h5
            have h4' : fst0 (F.map (ffR V)) = 0 := by omega
            refine ⟨h1, by omega, by omega, fun v hv => ?_, fun f hf => fst0_zero h4' _ (List.mem_map.2 ⟨f, hf, rfl⟩), by simpa using h5⟩
            cases hq : farV v with
            | false => rfl
            | true => exact absurd (List.any_eq_true.2 ⟨v, hv, hq⟩) h3
theorem MOk.ix {V : List Vec3} {F : List Fac3} (h : MOk V F) {f : Fac3} (hf : f ∈ F) : (0 ≤ f.a ∧ f.a < V.length) ∧ (0 ≤ f.b ∧ f.b < V.length) ∧ (0 ≤ f.c ∧ f.c < V.length) := by
  have h1 := h.face f hf
  unfold ffR at h1
  split at h1
  · cases h1
  · rename_i h2
    simp only [outI, Bool.or_eq_true, decide_eq_true_eq] at h2
    omega
theorem vx_mem {V : List Vec3} {i : Int} (h0 : 0 ≤ i) (h : i < V.length) : vx V i ∈ V := by
  unfold vx
  have h1 : i.toNat < V.length := by omega
  rw [List.getD_eq_getElem?_getD, List.getElem?_eq_getElem h1]
  exact List.getElem_mem h1
theorem MOk.near {V : List Vec3} {F : List Fac3} (h : MOk V F) {i : Int} (h0 : 0 ≤ i) (hi : i < V.length) : (-100000 ≤ (vx V i).x ∧ (vx V i).x ≤ 100000) ∧ (-100000 ≤ (vx V i).y ∧ (vx V i).y ≤ 100000) ∧ (-100000 ≤ (vx V i).z ∧ (vx V i).z ≤ 100000) := by
  have := h.far _ (vx_mem h0 hi)
  simp only [farV, farI, Bool.or_eq_false_iff, decide_eq_false_iff_not] at this
  omega

/- ## The box -/
def minL : List Int → Int
  | [] => 0
  | [x] => x
  | x :: y :: l => min x (minL (y :: l))
def maxL : List Int → Int
  | [] => 0
  | [x] => x
  | x :: y :: l => max x (maxL (y :: l))
theorem minL_le : ∀ {l : List Int} {x : Int}, x ∈ l → minL l ≤ x
  | [y], x, h => by rw [List.mem_singleton.1 h]; exact Int.le_refl _
  | y :: z :: l, x, h => by
    unfold minL
    rcases List.mem_cons.1 h with rfl | h
    · omega
    · have := minL_le h; omega
theorem le_maxL : ∀ {l : List Int} {x : Int}, x ∈ l → x ≤ maxL l
  | [y], x, h => by rw [List.mem_singleton.1 h]; exact Int.le_refl _
  | y :: z :: l, x, h => by
    unfold maxL
    rcases List.mem_cons.1 h with rfl | h
    · omega
    · have := le_maxL h; omega
theorem minL_mem : ∀ {l : List Int}, l ≠ [] → minL l ∈ l
  | [y], _ => by simp [minL]
  | y :: z :: l, _ => by
    have := minL_mem (l := z :: l) (by simp)
    unfold minL
    rcases Int.le_total y (minL (z :: l)) with h | h
    · rw [show min y (minL (z :: l)) = y by omega]; exact List.mem_cons_self
    · rw [show min y (minL (z :: l)) = minL (z :: l) by omega]; exact List.mem_cons_of_mem _ this
theorem maxL_mem : ∀ {l : List Int}, l ≠ [] → maxL l ∈ l
  | [y], _ => by simp [maxL]
  | y :: z :: l, _ => by
    have := maxL_mem (l := z :: l) (by simp)
    unfold maxL
    rcases Int.le_total y (maxL (z :: l)) with h | h
    · rw [show max y (maxL (z :: l)) = maxL (z :: l) by omega]; exact List.mem_cons_of_mem _ this
    · rw [show max y (maxL (z :: l)) = y by omega]; exact List.mem_cons_self
theorem minL_is {l : List Int} {m : Int} (h : m ∈ l) (hm : ∀ x ∈ l, m ≤ x) : minL l = m := by
  have h1 := minL_le h
  have h2 := hm _ (minL_mem (fun e => by rw [e] at h; cases h))
  omega
theorem maxL_is {l : List Int} {m : Int} (h : m ∈ l) (hm : ∀ x ∈ l, x ≤ m) : maxL l = m := by
  have h1 := le_maxL h
  have h2 := hm _ (maxL_mem (fun e => by rw [e] at h; cases h))
  omega
/-- The heights of a face's corners; of all. -/
def fzs (V : List Vec3) (f : Fac3) : List Int := [(vx V f.a).z, (vx V f.b).z, (vx V f.c).z]
def zs (V : List Vec3) (F : List Fac3) : List Int := F.flatMap (fzs V)
theorem zs_ne {V : List Vec3} {F : List Fac3} (h : F ≠ []) : zs V F ≠ [] := by
  cases F with
  | nil => exact absurd rfl h
  | cons f F => simp [zs, fzs]
theorem zs_near {V : List Vec3} {F : List Fac3} (h : MOk V F) : ∀ x ∈ zs V F, -100000 ≤ x ∧ x ≤ 100000 := fun x hx => by
  obtain ⟨f, hf, hx⟩ := List.mem_flatMap.1 hx
  obtain ⟨h1, h2, h3⟩ := h.ix hf
  have n1 := (h.near h1.1 h1.2).2.2
  have n2 := (h.near h2.1 h2.2).2.2
  have n3 := (h.near h3.1 h3.2).2.2
  simp only [fzs, List.mem_cons, List.not_mem_nil, or_false] at hx
  rcases hx with rfl | rfl | rfl
  · exact n1
  · exact n2
  · exact n3
def loZ (V : List Vec3) (F : List Fac3) : Int := minL (zs V F)
def hiZ (V : List Vec3) (F : List Fac3) : Int := maxL (zs V F)
theorem lo_near {V : List Vec3} {F : List Fac3} (h : MOk V F) : -100000 ≤ loZ V F ∧ loZ V F ≤ 100000 := zs_near h _ (minL_mem (zs_ne h.ne))
theorem hi_near {V : List Vec3} {F : List Fac3} (h : MOk V F) : -100000 ≤ hiZ V F ∧ hiZ V F ≤ 100000 := zs_near h _ (maxL_mem (zs_ne h.ne))

/- ## Scans -/
theorem dupS_app : ∀ (a b acc : List Sid2), dupS acc (a ++ b) = (dupS acc a || dupS (acc ++ a) b)
  | [], b, acc => by simp [dupS]
  | s :: a, b, acc => by
    simp only [List.cons_append, dupS]
    rw [dupS_app a b (acc ++ [s]), Bool.or_assoc, List.append_assoc]
    rfl
/-- One side more. -/
theorem dupS_snoc {l : List Sid2} {s : Sid2} (h : dupS [] l = false) : dupS [] (l ++ [s]) = l.contains s := by
  rw [dupS_app, h]; simp [dupS]
theorem dupS_hit {l r : List Sid2} {s : Sid2} (h : l.contains s = true) : dupS [] (l ++ s :: r) = true := by
  rw [dupS_app, List.nil_append]
  simp only [dupS, h, Bool.true_or, Bool.or_true]
theorem sd_split {F : List Fac3} {k : Nat} {f : Fac3} (h : F[k]? = some f) (j : Nat) : F.flatMap sds = (F.take k).flatMap sds ++ (sds f).take j ++ ((sds f).drop j ++ (F.drop (k + 1)).flatMap sds) := by
  have hk : k < F.length := by
    rcases Nat.lt_or_ge k F.length with h' | h'
    · exact h'
    · rw [List.getElem?_eq_none h'] at h; cases h
  have e : F = F.take k ++ f :: F.drop (k + 1) := by
    rw [List.getElem?_eq_getElem hk] at h
    injection h with h
    rw [← h, List.getElem_cons_drop, List.take_append_drop]
  conv => lhs; rw [e]
  rw [List.flatMap_append, List.flatMap_cons, List.append_assoc, ← List.append_assoc (List.take j (sds f)), List.take_append_drop]
theorem sd_next {F : List Fac3} {k : Nat} {f : Fac3} (h : F[k]? = some f) : (F.take (k + 1)).flatMap sds = (F.take k).flatMap sds ++ sds f := by
  rw [List.take_add_one, h, List.flatMap_append]; simp
theorem fst0_at {l : List Int} {k : Nat} {e : Int} (h0 : fst0 (l.take k) = 0) (h : l[k]? = some e) (he : e ≠ 0) : fst0 l = e := by
  have hk : k < l.length := by
    rcases Nat.lt_or_ge k l.length with h' | h'
    · exact h'
    · rw [List.getElem?_eq_none h'] at h; cases h
  rw [List.getElem?_eq_getElem hk] at h
  injection h with h
  conv => lhs; rw [← List.take_append_drop k l, ← List.getElem_cons_drop (h := hk), h]
  rw [fst0_app, if_pos h0, fst0, if_neg he]
theorem fst0_next {l : List Int} {k : Nat} {e : Int} (h0 : fst0 (l.take k) = 0) (h : l[k]? = some e) (he : e = 0) : fst0 (l.take (k + 1)) = 0 := by
  rw [List.take_add_one, h, fst0_app, if_pos h0]; simp [fst0, he]

/- ## Which vertices are used -/
def usedI (F : List Fac3) (i : Nat) : Bool := F.any fun f => decide (f.a = i) || decide (f.b = i) || decide (f.c = i)
theorem zs_used {V : List Vec3} {F : List Fac3} (h : MOk V F) {x : Int} : x ∈ zs V F ↔ ∃ i : Nat, i < V.length ∧ usedI F i = true ∧ x = (vx V i).z := by
  constructor
  · intro hx
    obtain ⟨f, hf, hx⟩ := List.mem_flatMap.1 hx
    obtain ⟨h1, h2, h3⟩ := h.ix hf
    have key : ∀ q : Int, 0 ≤ q → q < V.length → (q = f.a ∨ q = f.b ∨ q = f.c) → x = (vx V q).z → ∃ i : Nat, i < V.length ∧ usedI F i = true ∧ x = (vx V i).z := fun q q0 q1 hq e => by
      refine ⟨q.toNat, by omega, List.any_eq_true.2 ⟨f, hf, ?_⟩, by rw [show ((q.toNat : Nat) : Int) = q by omega]; exact e⟩
      simp only [Bool.or_eq_true, decide_eq_true_eq]
      omega
    simp only [fzs, List.mem_cons, List.not_mem_nil, or_false] at hx
    rcases hx with e | e | e
    · exact key _ h1.1 h1.2 (.inl rfl) e
    · exact key _ h2.1 h2.2 (.inr (.inl rfl)) e
    · exact key _ h3.1 h3.2 (.inr (.inr rfl)) e
  · rintro ⟨i, hi, hu, rfl⟩
    obtain ⟨f, hf, hu⟩ := List.any_eq_true.1 hu
    refine List.mem_flatMap.2 ⟨f, hf, ?_⟩
    simp only [Bool.or_eq_true, decide_eq_true_eq] at hu
    simp only [fzs, List.mem_cons, List.not_mem_nil, or_false]
    rcases hu with (e | e) | e
    · left; rw [e]
    · right; left; rw [e]
    · right; right; rw [e]
theorem usedI_next {F : List Fac3} {k : Nat} {f : Fac3} (h : F[k]? = some f) (i : Nat) : usedI (F.take (k + 1)) i = (usedI (F.take k) i || (decide (f.a = i) || decide (f.b = i) || decide (f.c = i))) := by
  unfold usedI
  rw [List.take_add_one, h, List.any_append]; simp
/-- The heights of the used ones below k. -/
def uzs (V : List Vec3) (F : List Fac3) (k : Nat) : List Int := ((List.range k).filter (usedI F)).map fun (i : Nat) => (vx V i).z
theorem uzs_next (V : List Vec3) (F : List Fac3) (k : Nat) : uzs V F (k + 1) = if usedI F k = true then uzs V F k ++ [(vx V k).z] else uzs V F k := by
  unfold uzs
  rw [List.range_succ, List.filter_append, List.map_append]
  split
  · rename_i h; simp [h]
  · rename_i h; simp [h]
theorem minL_snoc {l : List Int} {x : Int} (h : l ≠ []) : minL (l ++ [x]) = min (minL l) x := by
  refine minL_is ?_ fun y hy => ?_
  · rcases Int.le_total (minL l) x with h1 | h1
    · rw [show min (minL l) x = minL l by omega]; exact List.mem_append_left _ (minL_mem h)
    · rw [show min (minL l) x = x by omega]; simp
  · rcases List.mem_append.1 hy with hy | hy
    · have := minL_le hy; omega
    · rw [List.mem_singleton.1 hy]; omega
theorem maxL_snoc {l : List Int} {x : Int} (h : l ≠ []) : maxL (l ++ [x]) = max (maxL l) x := by
  refine maxL_is ?_ fun y hy => ?_
  · rcases Int.le_total (maxL l) x with h1 | h1
    · rw [show max (maxL l) x = x by omega]; simp
    · rw [show max (maxL l) x = maxL l by omega]; exact List.mem_append_left _ (maxL_mem h)
  · rcases List.mem_append.1 hy with hy | hy
    · have := le_maxL hy; omega
    · rw [List.mem_singleton.1 hy]; omega
theorem uzs_box {V : List Vec3} {F : List Fac3} (h : MOk V F) : uzs V F V.length ≠ [] ∧ minL (uzs V F V.length) = loZ V F ∧ maxL (uzs V F V.length) = hiZ V F := by
  have hm : ∀ x, x ∈ uzs V F V.length ↔ x ∈ zs V F := fun x => by
    rw [zs_used h]
    unfold uzs
    simp only [List.mem_map, List.mem_filter, List.mem_range]
    constructor
    · rintro ⟨i, ⟨h1, h2⟩, rfl⟩; exact ⟨i, h1, h2, rfl⟩
    · rintro ⟨i, h1, h2, rfl⟩; exact ⟨i, ⟨h1, h2⟩, rfl⟩
  have hne : uzs V F V.length ≠ [] := fun e => by
    have := (hm _).2 (minL_mem (zs_ne h.ne))
    rw [e] at this; cases this
  exact ⟨hne, minL_is ((hm _).2 (minL_mem (zs_ne h.ne))) fun x hx => minL_le ((hm x).1 hx), maxL_is ((hm _).2 (maxL_mem (zs_ne h.ne))) fun x hx => le_maxL ((hm x).1 hx)⟩

/- ## Levels -/
/-- Each run of equals once. -/
def compL : List Int → List Int
  | [] => []
  | [x] => [x]
  | x :: y :: l => if x = y then compL (y :: l) else x :: compL (y :: l)
def lvlL (V : List Vec3) (F : List Fac3) : List Int := compL ((zs V F).mergeSort fun x y => decide (x ≤ y))

/- ## Heights -/
/-- How many. -/
def hsN (lo hi first step : Int) : Nat := if lo + first < hi then ((hi - lo - first - 1) / step).toNat + 1 else 0
def hsL (lo hi first step : Int) : List Int := (List.range (hsN lo hi first step)).map fun (k : Nat) => lo + first + (k : Int) * step
theorem hsL_len (lo hi first step : Int) : (hsL lo hi first step).length = hsN lo hi first step := by simp [hsL]
theorem hs_more {lo hi first step : Int} (hs : 1 ≤ step) (k : Nat) : lo + first + (k : Int) * step < hi ↔ k < hsN lo hi first step := by
  unfold hsN
  have hk : 0 ≤ (k : Int) * step := Int.mul_nonneg (by omega) (by omega)
  split
  · rename_i h
    have h1 : 0 ≤ (hi - lo - first - 1) / step := Int.ediv_nonneg (by omega) (by omega)
    have h2 : (k : Int) ≤ (hi - lo - first - 1) / step ↔ (k : Int) * step ≤ hi - lo - first - 1 := Int.le_ediv_iff_mul_le (by omega)
    omega
  · omega
theorem hs_take {lo hi first step : Int} (k : Nat) (h : k < hsN lo hi first step) : (hsL lo hi first step).take (k + 1) = (hsL lo hi first step).take k ++ [lo + first + (k : Int) * step] := by
  rw [List.take_add_one]
  congr 1
  simp [hsL, h]
theorem hs_all {lo hi first step : Int} {k : Nat} (h : hsN lo hi first step ≤ k) : (hsL lo hi first step).take k = hsL lo hi first step := List.take_of_length_le (by rw [hsL_len]; exact h)
/-- How many at most. -/
theorem hsN_le {lo hi first step : Int} (hs : 1 ≤ step) (hf : 1 ≤ first) (h0 : -100000 ≤ lo) (h1 : hi ≤ 100000) : hsN lo hi first step ≤ 200000 := by
  unfold hsN
  split
  · have : (hi - lo - first - 1) / step ≤ hi - lo - first - 1 := Int.ediv_le_self _ (by omega)
    omega
  · omega

/- ## Adaptive tops -/
def absI (n : Int) : Int := max n (-n)
def sdI (n : Vec3) : Int := max (absI n.x) (absI n.y)
/-- How thick a layer can be at a face; between which heights it lies. -/
structure Slnt where
  low : Int
  high : Int
  most : Int
def slOf (V : List Vec3) (off most : Int) (f : Fac3) : Slnt := ⟨minL (fzs V f), maxL (fzs V f), if (nrm V f).z ≠ 0 then min most (off * sdI (nrm V f) / absI (nrm V f).z) else most⟩
def slL (V : List Vec3) (F : List Fac3) (off most : Int) : List Slnt := (F.filter fun f => decide (sdI (nrm V f) ≠ 0)).map (slOf V off most)
def thkL : List Slnt → Int → Int → Int
  | [], _, m => m
  | s :: l, z, m => thkL l z (if z < s.high then min m (max (s.low - z) s.most) else m)
/-- A layer is thin enough for a face. -/
def thinF (V : List Vec3) (off z to : Int) (f : Fac3) : Bool := !(decide (minL (fzs V f) < to) && decide (z < maxL (fzs V f)) && decide (0 < sdI (nrm V f)) && decide (off * sdI (nrm V f) < (to - z) * absI (nrm V f).z))
theorem thkL_le : ∀ (l : List Slnt) (z m t : Int), t ≤ thkL l z m ↔ t ≤ m ∧ ∀ s ∈ l, z < s.high → t ≤ max (s.low - z) s.most
  | [], z, m, t => by simp [thkL]
  | s :: l, z, m, t => by
    rw [thkL, thkL_le l z _ t]
    constructor
    · rintro ⟨h1, h2⟩
      refine ⟨by split at h1 <;> omega, fun s' hs' hh => ?_⟩
      rcases List.mem_cons.1 hs' with rfl | hs'
      · rw [if_pos hh] at h1; omega
      · exact h2 s' hs' hh
    · rintro ⟨h1, h2⟩
      refine ⟨?_, fun s' hs' hh => h2 s' (List.mem_cons_of_mem _ hs') hh⟩
      split
      · rename_i hh
        have := h2 s List.mem_cons_self hh
        omega
      · exact h1
theorem absI_nn (n : Int) : 0 ≤ absI n := by unfold absI; omega
theorem sdI_nn (n : Vec3) : 0 ≤ sdI n := by have := absI_nn n.x; unfold sdI; omega
theorem absI_pos {n : Int} (h : n ≠ 0) : 0 < absI n := by unfold absI; omega
/-- Thin enough means no more than the thickness. -/
theorem thin_iff {V : List Vec3} {F : List Fac3} {off most z t : Int} (hoff : 0 ≤ off) (h0 : 0 ≤ t) (ht : t ≤ most) : F.all (thinF V off z (z + t)) = true ↔ t ≤ thkL (slL V F off most) z most := by
  rw [thkL_le, List.all_eq_true]
  have key : ∀ f, (thinF V off z (z + t) f = true) ↔ (sdI (nrm V f) ≠ 0 → z < (slOf V off most f).high → t ≤ max ((slOf V off most f).low - z) (slOf V off most f).most) := fun f => by
    have hs := sdI_nn (nrm V f)
    have e : z + t - z = t := by omega
    simp only [thinF, slOf, Bool.not_eq_true', Bool.and_eq_false_iff, decide_eq_false_iff_not, e]
    by_cases hz : (nrm V f).z = 0
    · have hn : absI (nrm V f).z = 0 := by rw [hz]; rfl
      have h1 : 0 ≤ off * sdI (nrm V f) := Int.mul_nonneg hoff hs
      rw [if_neg (by simp [hz]), hn, Int.mul_zero]
      constructor
      · intro _ _ _; omega
      · intro _; omega
    · have hn := absI_pos hz
      have h1 : 0 ≤ off * sdI (nrm V f) := Int.mul_nonneg hoff hs
      have h2 : t ≤ off * sdI (nrm V f) / absI (nrm V f).z ↔ t * absI (nrm V f).z ≤ off * sdI (nrm V f) := Int.le_ediv_iff_mul_le hn
      rw [if_pos hz]
      constructor
      · intro h a b; omega
      · intro h
        by_cases a : sdI (nrm V f) ≠ 0
        · have := h a; omega
        · omega
  constructor
  · intro h
    refine ⟨ht, fun s hs hh => ?_⟩
    obtain ⟨f, hf, rfl⟩ := List.mem_map.1 hs
    obtain ⟨hf, hd⟩ := List.mem_filter.1 hf
    exact (key f).1 (h f hf) (by simpa using hd) hh
  · rintro ⟨_, h⟩ f hf
    refine (key f).2 fun hd hh => h _ (List.mem_map.2 ⟨f, List.mem_filter.2 ⟨hf, by simpa using hd⟩, rfl⟩) hh
theorem thk_nn {V : List Vec3} {F : List Fac3} {off most z : Int} (hoff : 0 ≤ off) (hm : 0 ≤ most) : 0 ≤ thkL (slL V F off most) z most ∧ thkL (slL V F off most) z most ≤ most := by
  refine ⟨?_, ((thkL_le _ _ _ _).1 (Int.le_refl _)).1⟩
  rw [thkL_le]
  refine ⟨hm, fun s hs _ => ?_⟩
  obtain ⟨f, _, rfl⟩ := List.mem_map.1 hs
  have : 0 ≤ (slOf V off most f).most := by
    unfold slOf
    dsimp only
    split
    · have : 0 ≤ off * sdI (nrm V f) / absI (nrm V f).z := Int.ediv_nonneg (Int.mul_nonneg hoff (sdI_nn _)) (absI_nn _)
      omega
    · exact hm
  omega
/-- How much the next layer takes. -/
def stepA (V : List Vec3) (F : List Fac3) (least most off z : Int) : Int := max least (thkL (slL V F off most) z most / least * least)
theorem stepA_ge {V : List Vec3} {F : List Fac3} {least most off z : Int} : least ≤ stepA V F least most off z := by unfold stepA; omega
theorem stepA_le {V : List Vec3} {F : List Fac3} {least most off z : Int} (h1 : 1 ≤ least) (h2 : least ≤ most) (hoff : 0 ≤ off) : stepA V F least most off z ≤ most := by
  have h := thk_nn (V := V) (F := F) (z := z) hoff (show 0 ≤ most by omega)
  have : thkL (slL V F off most) z most / least * least ≤ thkL (slL V F off most) z most := Int.ediv_mul_le _ (by omega)
  unfold stepA; omega
/-- The search from the greatest thickness down: where it ends. -/
theorem stepA_end {V : List Vec3} {F : List Fac3} {least most off z j : Int} (h1 : 1 ≤ least) (h2 : least ≤ most) (hoff : 0 ≤ off) (hj : 1 ≤ j) (hjm : j * least ≤ most) (hjt : thkL (slL V F off most) z most / least ≤ j)
    (he : j * least ≤ least ∨ F.all (thinF V off z (z + j * least)) = true) : j * least = stepA V F least most off z := by
  have ht := thk_nn (V := V) (F := F) (z := z) hoff (show 0 ≤ most by omega)
  have hq : 0 ≤ thkL (slL V F off most) z most / least := Int.ediv_nonneg ht.1 (by omega)
  have hj0 : 0 ≤ j * least := Int.mul_nonneg (by omega) (by omega)
  unfold stepA
  rcases he with he | he
  · have hj1 : j = 1 := by
      rcases Int.lt_or_le 1 j with h | h
      · have : 2 * least ≤ j * least := Int.mul_le_mul_of_nonneg_right (by omega) (by omega)
        omega
      · omega
    subst hj1
    have : thkL (slL V F off most) z most / least * least ≤ 1 * least := Int.mul_le_mul_of_nonneg_right hjt (by omega)
    omega
  · rw [thin_iff (most := most) hoff hj0 hjm] at he
    have h3 : j ≤ thkL (slL V F off most) z most / least := (Int.le_ediv_iff_mul_le (by omega)).2 he
    have : j = thkL (slL V F off most) z most / least := by omega
    rw [← this]
    have : 1 * least ≤ j * least := Int.mul_le_mul_of_nonneg_right hj (by omega)
    omega
theorem stepA_next {V : List Vec3} {F : List Fac3} {least most off z j : Int} (h1 : 1 ≤ least) (h2 : least ≤ most) (hoff : 0 ≤ off) (hj : 1 ≤ j) (hjm : j * least ≤ most) (hjt : thkL (slL V F off most) z most / least ≤ j)
    (hl : least < j * least) (he : F.all (thinF V off z (z + j * least)) = false) : 1 ≤ j - 1 ∧ (j - 1) * least ≤ most ∧ thkL (slL V F off most) z most / least ≤ j - 1 ∧ (j - 1) * least = j * least - least := by
  have hj0 : 0 ≤ j * least := Int.mul_nonneg (by omega) (by omega)
  have e : (j - 1) * least = j * least - least := by rw [Int.sub_mul]; omega
  have hj1 : 1 < j := by
    rcases Int.lt_or_le 1 j with h | h
    · exact h
    · have : j = 1 := by omega
      subst this; omega
  refine ⟨by omega, by omega, ?_, e⟩
  have h3 : ¬ j * least ≤ thkL (slL V F off most) z most := fun h => by
    rw [← thin_iff (V := V) (F := F) hoff hj0 hjm] at h
    rw [h] at he; cases he
  have h4 : ¬ j ≤ thkL (slL V F off most) z most / least := fun h => h3 ((Int.le_ediv_iff_mul_le (by omega)).1 h)
  omega
/-- The tops from a height on; n at most. -/
def topsA (T : Int → Int) (hi : Int) : Nat → Int → List Int
  | 0, _ => []
  | n + 1, z => if z < hi then min hi (z + T z) :: topsA T hi n (min hi (z + T z)) else []
theorem topsA_more {T : Int → Int} {hi : Int} (hT : ∀ z, 1 ≤ T z) : ∀ (n m : Nat) (z : Int), (hi - z).toNat ≤ n → n ≤ m → topsA T hi m z = topsA T hi n z
  | 0, m, z, h, _ => by
    cases m with
    | zero => rfl
    | succ m => unfold topsA; rw [if_neg (by omega)]
  | n + 1, m, z, h, hm => by
    cases m with
    | zero => omega
    | succ m =>
      rw [topsA, topsA]
      split
      · have := hT z
        rw [topsA_more hT n m _ (by omega) (by omega)]
      · rfl
def tops (T : Int → Int) (hi z : Int) : List Int := topsA T hi (hi - z).toNat z
theorem tops_end {T : Int → Int} {hi z : Int} (h : hi ≤ z) : tops T hi z = [] := by
  unfold tops
  rw [show (hi - z).toNat = 0 by omega]; rfl
theorem tops_step {T : Int → Int} (hT : ∀ z, 1 ≤ T z) {hi z : Int} (h : z < hi) : tops T hi z = min hi (z + T z) :: tops T hi (min hi (z + T z)) := by
  unfold tops
  obtain ⟨n, hn⟩ : ∃ n, (hi - z).toNat = n + 1 := ⟨(hi - z).toNat - 1, by omega⟩
  rw [hn, topsA, if_pos h]
  congr 1
  have := hT z
  exact topsA_more hT _ n _ (Nat.le_refl _) (by omega)
theorem tops_len {T : Int → Int} (hT : ∀ z, 1 ≤ T z) {hi : Int} : ∀ (n : Nat) (z : Int), (hi - z).toNat ≤ n → (tops T hi z).length ≤ n
  | 0, z, h => by rw [tops_end (by omega)]; simp
  | n + 1, z, h => by
    by_cases hz : z < hi
    · rw [tops_step hT hz]
      have := hT z
      have := tops_len hT (hi := hi) n (min hi (z + T z)) (by omega)
      simp only [List.length_cons]; omega
    · rw [tops_end (by omega)]; simp
/-- Beyond the end there is nothing: the place may be left as it is. -/
theorem tops_min {T : Int → Int} {hi z : Int} : tops T hi (min hi z) = tops T hi z := by
  rcases Int.le_total z hi with h | h
  · rw [show min hi z = z by omega]
  · rw [show min hi z = hi by omega, tops_end h, tops_end (Int.le_refl _)]
end Go.Proofs.YthanangkmjjbaaaGreatDoor
