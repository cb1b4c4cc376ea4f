/- Vectors, faces and sides, by value: the program's functions and the reference's. -/
import Derived.Test.YthanangkmjjbaaaGreatDoorQar
import Derived.Test.YthanangkmjjbaaaGreatDoorQas
set_option linter.unusedSimpArgs false
set_option linter.unusedVariables false
/- Plain law: meshes by their numbers; their faults, boxes, heights, levels and adaptive tops. -/
namespace Go.Proofs.YthanangkmjjbaaaGreatDoor
structure Vec3 where
  x : Int
  y : Int
  z : Int
deriving DecidableEq
structure Fac3 where
  a : Int
  b : Int
  c : Int
deriving DecidableEq
structure Sid2 where
  f : Int
  t : Int
deriving DecidableEq
/-- A vertex. -/
def vx (V : List Vec3) (i : Int) : Vec3 := V.getD i.toNat ⟨0, 0, 0⟩
def sub3 (a b : Vec3) : Vec3 := ⟨a.x - b.x, a.y - b.y, a.z - b.z⟩
def crs (a b : Vec3) : Vec3 := ⟨a.y * b.z - a.z * b.y, a.z * b.x - a.x * b.z, a.x * b.y - a.y * b.x⟩
def nrm (V : List Vec3) (f : Fac3) : Vec3 := crs (sub3 (vx V f.b) (vx V f.a)) (sub3 (vx V f.c) (vx V f.a))
def farI (n : Int) : Bool := decide (n < -100000) || decide (100000 < n)
def farV (v : Vec3) : Bool := farI v.x || farI v.y || farI v.z
def outI (V : List Vec3) (i : Int) : Bool := decide (i < 0) || decide ((V.length : Int) ≤ i)
/-- What is wrong with a face. -/
def ffR (V : List Vec3) (f : Fac3) : Int := if (outI V f.a || outI V f.b || outI V f.c) = true then 8 else if nrm V f = ⟨0, 0, 0⟩ then 3 else 0
def ffP (V : List Vec3) (f : Fac3) : Int := if (outI V f.a || outI V f.b || outI V f.c) = true then 8 else if f.a = f.b ∨ f.b = f.c ∨ f.c = f.a ∨ nrm V f = ⟨0, 0, 0⟩ then 3 else 0
theorem mul_self_sub (a b : Int) : a * b - b * a = 0 := by rw [Int.mul_comm]; omega
theorem ffP_R (V : List Vec3) (f : Fac3) : ffP V f = ffR V f := by
  unfold ffP ffR
  split
  · rfl
  · have h : (f.a = f.b ∨ f.b = f.c ∨ f.c = f.a ∨ nrm V f = ⟨0, 0, 0⟩) ↔ nrm V f = ⟨0, 0, 0⟩ := by
      refine ⟨fun h => ?_, fun h => .inr (.inr (.inr h))⟩
      rcases h with h | h | h | h
      · simp only [nrm, sub3, crs, h, Int.sub_self, Int.zero_mul, Int.mul_zero]
      · simp only [nrm, sub3, crs, h, mul_self_sub]
      · simp only [nrm, sub3, crs, h, Int.sub_self, Int.zero_mul, Int.mul_zero]
      · exact h
    simp only [h]
def sds (f : Fac3) : List Sid2 := [⟨f.a, f.b⟩, ⟨f.b, f.c⟩, ⟨f.c, f.a⟩]
/-- A side is there twice. -/
def dupS : List Sid2 → List Sid2 → Bool
  | _, [] => false
  | acc, s :: l => acc.contains s || dupS (acc ++ [s]) l
def fst0 : List Int → Int
  | [] => 0
  | e :: l => if e = 0 then fst0 l else e
/-- What is wrong with a mesh. -/
def mshF (V : List Vec3) (F : List Fac3) : Int :=
  if F = [] then 8 else if 1000 < V.length ∨ 1000 < F.length then 2 else if V.any farV = true then 1 else
  if fst0 (F.map (ffR V)) ≠ 0 then fst0 (F.map (ffR V)) else if dupS [] (F.flatMap sds) = true then 6 else 0
theorem fst0_app : ∀ (a b : List Int), fst0 (a ++ b) = if fst0 a = 0 then fst0 b else fst0 a
  | [], b => by simp [fst0]
  | e :: a, b => by
    simp only [List.cons_append, fst0]
    split
    · exact fst0_app a b
    · rename_i h; simp [h]
theorem fst0_zero : ∀ {l : List Int}, fst0 l = 0 → ∀ e ∈ l, e = 0
  | [], _, e, h => by cases h
  | x :: l, h, e, he => by
    unfold fst0 at h
    split at h
    · rcases List.mem_cons.1 he with rfl | he
      · assumption
      · exact fst0_zero h e he
    · contradiction
/-- A right mesh. -/
structure MOk (V : List Vec3) (F : List Fac3) : Prop where
  ne : F ≠ []
  lv : V.length ≤ 1000
  lf : F.length ≤ 1000
  far : ∀ v ∈ V, farV v = false
  face : ∀ f ∈ F, ffR V f = 0
  dup : dupS [] (F.flatMap sds) = false
theorem mok_of {V : List Vec3} {F : List Fac3} (h : mshF V F = 0) : MOk V F := by
  unfold mshF at h
  split at h
  · cases h
  · rename_i h1
    split at h
    · cases h
    · rename_i h2
      split at h
      · cases h
      · rename_i h3
        split at h
        · rename_i h4; exact absurd h h4
        · rename_i h4
          split at h
          · cases h
          · rename_i h5
            have h4' : fst0 (F.map (ffR V)) = 0 := by omega
            refine ⟨h1, by omega, by omega, fun v hv => ?_, fun f hf => fst0_zero h4' _ (List.mem_map.2 ⟨f, hf, rfl⟩), by simpa using h5⟩
            cases hq : farV v with
            | false => rfl
            | true => exact absurd (List.any_eq_true.2 ⟨v, hv, hq⟩) h3
theorem MOk.ix {V : List Vec3} {F : List Fac3} (h : MOk V F) {f : Fac3} (hf : f ∈ F) : (0 ≤ f.a ∧ f.a < V.length) ∧ (0 ≤ f.b ∧ f.b < V.length) ∧ (0 ≤ f.c ∧ f.c < V.length) := by
  have h1 := h.face f hf
  unfold ffR at h1
  split at h1
  · cases h1
  · rename_i h2
    simp only [outI, Bool.or_eq_true, decide_eq_true_eq] at h2
    omega
theorem vx_mem {V : List Vec3} {i : Int} (h0 : 0 ≤ i) (h : i < V.length) : vx V i ∈ V := by
  unfold vx
  have h1 : i.toNat < V.length := by omega
  rw [List.getD_eq_getElem?_getD, List.getElem?_eq_getElem h1]
  exact List.getElem_mem h1
/- ## The box -/
def minL : List Int → Int
  | [] => 0
  | [x] => x
  | x :: y :: l => min x (minL (y :: l))
def maxL : List Int → Int
  | [] => 0
  | [x] => x
  | x :: y :: l => max x (maxL (y :: l))
theorem minL_le : ∀ {l : List Int} {x : Int}, x ∈ l → minL l ≤ x
  | [y], x, h => by rw [List.mem_singleton.1 h]; exact Int.le_refl _
  | y :: z :: l, x, h => by
    unfold minL
    rcases List.mem_cons.1 h with rfl | h
    · omega
    · have := minL_le h; omega
theorem le_maxL : ∀ {l : List Int} {x : Int}, x ∈ l → x ≤ maxL l
  | [y], x, h => by rw [List.mem_singleton.1 h]; exact Int.le_refl _
  | y :: z :: l, x, h => by
    unfold maxL
    rcases List.mem_cons.1 h with rfl | h
    · omega
    · have := le_maxL h; omega
theorem minL_mem : ∀ {l : List Int}, l ≠ [] → minL l ∈ l
  | [y], _ => by simp [minL]
  | y :: z :: l, _ => by
    have := minL_mem (l := z :: l) (by simp)
    unfold minL
    rcases Int.le_total y (minL (z :: l)) with h | h
    · rw [show min y (minL (z :: l)) = y by omega]; exact List.mem_cons_self
    · rw [show min y (minL (z :: l)) = minL (z :: l) by omega]; exact List.mem_cons_of_mem _ this
theorem maxL_mem : ∀ {l : List Int}, l ≠ [] → maxL l ∈ l
  | [y], _ => by simp [maxL]
  | y :: z :: l, _ => by
    have := maxL_mem (l := z :: l) (by simp)
    unfold maxL
    rcases Int.le_total y (maxL (z :: l)) with h | h
    · rw [show max y (maxL (z :: l)) = maxL (z :: l) by omega]; exact List.mem_cons_of_mem _ this
    · rw [show max y (maxL (z :: l)) = y by omega]; exact List.mem_cons_self
theorem minL_is {l : List Int} {m : Int} (h : m ∈ l) (hm : ∀ x ∈ l, m ≤ x) : minL l = m := by
  have h1 := minL_le h
  have h2 := hm _ (minL_mem (fun e => by rw [e] at h; cases h))
  omega
theorem maxL_is {l : List Int} {m : Int} (h : m ∈ l) (hm : ∀ x ∈ l, x ≤ m) : maxL l = m := by
  have h1 := le_maxL h
  have h2 := hm _ (maxL_mem (fun e => by rw [e] at h; cases h))
  omega
/-- The heights of a face's corners; of all. -/
def fzs (V : List Vec3) (f : Fac3) : List Int := [(vx V f.a).z, (vx V f.b).z, (vx V f.c).z]
def zs (V : List Vec3) (F : List Fac3) : List Int := F.flatMap (fzs V)
/- ## Scans -/
theorem dupS_app : ∀ (a b acc : List Sid2), dupS acc (a ++ b) = (dupS acc a || dupS (acc ++ a) b)
  | [], b, acc => by simp [dupS]
  | s :: a, b, acc => by
    simp only [List.cons_append, dupS]
    rw [dupS_app a b (acc ++ [s]), Bool.or_assoc, List.append_assoc]
    rfl
/-- One side more. -/
theorem dupS_snoc {l : List Sid2} {s : Sid2} (h : dupS [] l = false) : dupS [] (l ++ [s]) = l.contains s := by
  rw [dupS_app, h]; simp [dupS]
theorem dupS_hit {l r : List Sid2} {s : Sid2} (h : l.contains s = true) : dupS [] (l ++ s :: r) = true := by
  rw [dupS_app, List.nil_append]
  simp only [dupS, h, Bool.true_or, Bool.or_true]
theorem sd_split {F : List Fac3} {k : Nat} {f : Fac3} (h : F[k]? = some f) (j : Nat) : F.flatMap sds = (F.take k).flatMap sds ++ (sds f).take j ++ ((sds f).drop j ++ (F.drop (k + 1)).flatMap sds) := by
  have hk : k < F.length := by
    rcases Nat.lt_or_ge k F.length with h' | h'
    · exact h'
    · rw [List.getElem?_eq_none h'] at h; cases h
  have e : F = F.take k ++ f :: F.drop (k + 1) := by
    rw [List.getElem?_eq_getElem hk] at h
    injection h with h
    rw [← h, List.getElem_cons_drop, List.take_append_drop]
  conv => lhs; rw [e]
  rw [List.flatMap_append, List.flatMap_cons, List.append_assoc, ← List.append_assoc (List.take j (sds f)), List.take_append_drop]
theorem sd_next {F : List Fac3} {k : Nat} {f : Fac3} (h : F[k]? = some f) : (F.take (k + 1)).flatMap sds = (F.take k).flatMap sds ++ sds f := by
  rw [List.take_add_one, h, List.flatMap_append]; simp
theorem fst0_at {l : List Int} {k : Nat} {e : Int} (h0 : fst0 (l.take k) = 0) (h : l[k]? = some e) (he : e ≠ 0) : fst0 l = e := by
  have hk : k < l.length := by
    rcases Nat.lt_or_ge k l.length with h' | h'
    · exact h'
    · rw [List.getElem?_eq_none h'] at h; cases h
  rw [List.getElem?_eq_getElem hk] at h
  injection h with h
  conv => lhs; rw [← List.take_append_drop k l, ← List.getElem_cons_drop (h := hk), h]
  rw [fst0_app, if_pos h0, fst0, if_neg he]
theorem fst0_next {l : List Int} {k : Nat} {e : Int} (h0 : fst0 (l.take k) = 0) (h : l[k]? = some e) (he : e = 0) : fst0 (l.take (k + 1)) = 0 := by
  rw [List.take_add_one, h, fst0_app, if_pos h0]; simp [fst0, he]

/- ## Which vertices are used -/
theorem minL_snoc {l : List Int} {x : Int} (h : l ≠ []) : minL (l ++ [x]) = min (minL l) x := by
  refine minL_is ?_ fun y hy => ?_
  · rcases Int.le_total (minL l) x with h1 | h1
    · rw [show min (minL l) x = minL l by omega]; exact List.mem_append_left _ (minL_mem h)
    · rw [show min (minL l) x = x by omega]; simp
  · rcases List.mem_append.1 hy with hy | hy
    · have := minL_le hy; omega
    · rw [List.mem_singleton.1 hy]; omega
theorem maxL_snoc {l : List Int} {x : Int} (h : l ≠ []) : maxL (l ++ [x]) = max (maxL l) x := by
  refine maxL_is ?_ fun y hy => ?_
  · rcases Int.le_total (maxL l) x with h1 | h1
    · rw [show max (maxL l) x = x by omega]; simp
    · rw [show max (maxL l) x = maxL l by omega]; exact List.mem_append_left _ (maxL_mem h)
  · rcases List.mem_append.1 hy with hy | hy
    · have := le_maxL hy; omega
    · rw [List.mem_singleton.1 hy]; omega
/- ## Levels -/
/- ## Heights -/
/- ## Adaptive tops -/
/-- How thick a layer can be at a face; between which heights it lies. -/
structure Slnt where
  low : Int
  high : Int
  most : Int
/-- The tops from a height on; n at most. -/
def topsA (T : Int → Int) (hi : Int) : Nat → Int → List Int
  | 0, _ => []
  | n + 1, z => if z < hi then min hi (z + T z) :: topsA T hi n (min hi (z + T z)) else []
def tops (T : Int → Int) (hi z : Int) : List Int := topsA T hi (hi - z).toNat z
end Go.Proofs.YthanangkmjjbaaaGreatDoor

/- Vectors, faces and sides, by value: the program's functions and the reference's. -/
-- NEWM
namespace Go.Proofs.YthanangkmjjbaaaGreatDoor
open Go Go.RowKit
set_option maxRecDepth 100000
abbrev Vec3.row (v : Vec3) : List CV := [I v.x, I v.y, I v.z]
abbrev Fac3.row (f : Fac3) : List CV := [I f.a, I f.b, I f.c]
abbrev Sid2.row (s : Sid2) : List CV := [I s.f, I s.t]
/-- A mesh, as a value. -/
abbrev mshA (v w : Value) (V : List Vec3) (F : List Fac3) : AV := .a [.c (.r v (V.map Vec3.row)), .c (.r w (F.map Fac3.row))]
theorem outside_v (n lo hi : Int) : ACalls Tryz.prog 80 [.c (I n), .c (I lo), .c (I hi)] [] fun u H => u = .c (B (decide (n < lo) || decide (hi < n))) ∧ H = [] := by
  refine acalls_of (N := 15) Tryz.func80 rfl rfl (by simp) fun E hE => ?_
  by_cases h1 : n < lo
  · repeat' (first
      | (with_reducible refine aw_seq ?_) | (with_reducible refine aseq_n ?_) | (with_reducible refine aseq_r ?_) | (with_reducible refine ablk_n ?_) | (with_reducible refine ablk_r ?_) | (with_reducible refine ablk_e ?_) | (with_reducible refine ablk_o rfl ?_) | (with_reducible refine aseq_e ?_) | (with_reducible refine aw_skip ?_) | (with_reducible refine aw_block ?_) | (with_reducible refine aw_ret ?_) | (with_reducible refine aw_exit ?_)
      | refine aw_cond_t rfl ?_ | refine aw_cond_f rfl ?_ | refine aw_if_t rfl (by assumption) ?_ | refine aw_if_f rfl (by assumption) ?_ | refine aw_if rfl (fun _ => ?_) (fun _ => ?_) | refine aw_cond rfl (fun _ => ?_) (fun _ => ?_)
      | (refine aw_region ?_; refine WE ?_))
    all_goals (refine aret_1 [] _ rfl rfl rfl (by decide) (ZNK rfl) (fun _ => .nil) ⟨congrArg (fun z => AV.c (B z)) ?_, rfl⟩)
    all_goals simp [*]
  · repeat' (first
      | (with_reducible refine aw_seq ?_) | (with_reducible refine aseq_n ?_) | (with_reducible refine aseq_r ?_) | (with_reducible refine ablk_n ?_) | (with_reducible refine ablk_r ?_) | (with_reducible refine ablk_e ?_) | (with_reducible refine ablk_o rfl ?_) | (with_reducible refine aseq_e ?_) | (with_reducible refine aw_skip ?_) | (with_reducible refine aw_block ?_) | (with_reducible refine aw_ret ?_) | (with_reducible refine aw_exit ?_)
      | refine aw_cond_t rfl ?_ | refine aw_cond_f rfl ?_ | refine aw_if_t rfl (by assumption) ?_ | refine aw_if_f rfl (by assumption) ?_ | refine aw_if rfl (fun _ => ?_) (fun _ => ?_) | refine aw_cond rfl (fun _ => ?_) (fun _ => ?_)
      | (refine aw_region ?_; refine WE ?_))
    all_goals (refine aret_1 [] _ rfl rfl rfl (by decide) (ZNK rfl) (fun _ => .nil) ⟨congrArg (fun z => AV.c (B z)) ?_, rfl⟩)
    all_goals (simp [*]; try omega)
theorem rin_v (n lo hi : Int) : ACalls Tryz.prog 44 [.c (I n), .c (I lo), .c (I hi)] [] fun u H => u = .c (B (!(decide (n < lo) || decide (hi < n)))) ∧ H = [] := by
  refine acalls_of (N := 15) Tryz.func44 rfl rfl (by simp) fun E hE => ?_
  by_cases h1 : lo ≤ n
  · repeat' (first
      | (with_reducible refine aw_seq ?_) | (with_reducible refine aseq_n ?_) | (with_reducible refine aseq_r ?_) | (with_reducible refine ablk_n ?_) | (with_reducible refine ablk_r ?_) | (with_reducible refine ablk_e ?_) | (with_reducible refine ablk_o rfl ?_) | (with_reducible refine aseq_e ?_) | (with_reducible refine aw_skip ?_) | (with_reducible refine aw_block ?_) | (with_reducible refine aw_ret ?_) | (with_reducible refine aw_exit ?_)
      | refine aw_cond_t rfl ?_ | refine aw_cond_f rfl ?_ | refine aw_if_t rfl (by assumption) ?_ | refine aw_if_f rfl (by assumption) ?_ | refine aw_if rfl (fun _ => ?_) (fun _ => ?_) | refine aw_cond rfl (fun _ => ?_) (fun _ => ?_)
      | (refine aw_region ?_; refine WE ?_))
    all_goals (refine aret_1 [] _ rfl rfl rfl (by decide) (ZNK rfl) (fun _ => .nil) ⟨congrArg (fun z => AV.c (B z)) ?_, rfl⟩)
    all_goals (rw [Bool.eq_iff_iff]; simp; try omega)
  · repeat' (first
      | (with_reducible refine aw_seq ?_) | (with_reducible refine aseq_n ?_) | (with_reducible refine aseq_r ?_) | (with_reducible refine ablk_n ?_) | (with_reducible refine ablk_r ?_) | (with_reducible refine ablk_e ?_) | (with_reducible refine ablk_o rfl ?_) | (with_reducible refine aseq_e ?_) | (with_reducible refine aw_skip ?_) | (with_reducible refine aw_block ?_) | (with_reducible refine aw_ret ?_) | (with_reducible refine aw_exit ?_)
      | refine aw_cond_t rfl ?_ | refine aw_cond_f rfl ?_ | refine aw_if_t rfl (by assumption) ?_ | refine aw_if_f rfl (by assumption) ?_ | refine aw_if rfl (fun _ => ?_) (fun _ => ?_) | refine aw_cond rfl (fun _ => ?_) (fun _ => ?_)
      | (refine aw_region ?_; refine WE ?_))
    all_goals (refine aret_1 [] _ rfl rfl rfl (by decide) (ZNK rfl) (fun _ => .nil) ⟨congrArg (fun z => AV.c (B z)) ?_, rfl⟩)
    all_goals (rw [Bool.eq_iff_iff]; simp; try omega)
theorem farI_v (n : Int) : ACalls Tryz.prog 120 [.c (I n)] [] fun u H => u = .c (B (farI n)) ∧ H = [] := by
  refine acalls_of (N := 5) Tryz.func120 rfl rfl (by simp) fun E hE => ?_
  repeat' (first
    | (with_reducible refine aw_seq ?_) | (with_reducible refine aseq_n ?_) | (with_reducible refine aseq_r ?_) | (with_reducible refine ablk_n ?_) | (with_reducible refine ablk_r ?_) | (with_reducible refine ablk_e ?_) | (with_reducible refine ablk_o rfl ?_) | (with_reducible refine aseq_e ?_) | (with_reducible refine aw_skip ?_) | (with_reducible refine aw_block ?_) | (with_reducible refine aw_ret ?_) | (with_reducible refine aw_exit ?_)
    | refine aw_cond_t rfl ?_ | refine aw_cond_f rfl ?_ | refine aw_if_t rfl (by assumption) ?_ | refine aw_if_f rfl (by assumption) ?_ | refine aw_if rfl (fun _ => ?_) (fun _ => ?_) | refine aw_cond rfl (fun _ => ?_) (fun _ => ?_)
    | (refine aw_region (id := 1) ?_
       refine WO ?_
       refine al_ef rfl (ef_call0 false (fun _ => outside_v _ _ _) rfl .fn rfl (by decide) (by kernel_rfl) rfl (fun _g => .cons (.c rfl) (.cons (.c rfl) (.cons (.c rfl) .nil))) (by simp)) ?_
       rintro _ _ ⟨_, _, _, ⟨rfl, rfl⟩, hF, hH⟩
       (try simp only [nsl, Nat.reduceAdd, Nat.reduceLT, Nat.reduceSub] at hF); (try simp only [nsl, Nat.reduceAdd, Nat.reduceLT, Nat.reduceSub] at hH); subst hF; subst hH
       refine WE ?_)
    | (refine aw_region ?_; refine WE ?_))
  refine aret_1 [] _ rfl rfl rfl (by decide) (ZNK rfl) (fun _ => .nil) ⟨rfl, rfl⟩
/-- Within a bound. -/
def Vec3.in (v : Vec3) (M : Int) : Prop := (-M ≤ v.x ∧ v.x ≤ M) ∧ (-M ≤ v.y ∧ v.y ≤ M) ∧ (-M ≤ v.z ∧ v.z ≤ M)
theorem prod_in {x y M : Int} (hM : 0 ≤ M) (hx : -M ≤ x ∧ x ≤ M) (hy : -M ≤ y ∧ y ≤ M) : -(M * M) ≤ x * y ∧ x * y ≤ M * M := by
  have h1 : (x * y).natAbs ≤ (M * M).natAbs := by
    rw [Int.natAbs_mul, Int.natAbs_mul]
    exact Nat.mul_le_mul (by omega) (by omega)
  have h2 : 0 ≤ M * M := Int.mul_nonneg hM hM
  omega
theorem less_v (a b : Vec3) (ha : a.in 1000000) (hb : b.in 1000000) : ACalls Tryz.prog 178 [.a (a.row.map .c), .a (b.row.map .c)] [] fun u H => u = .a ((sub3 a b).row.map .c) ∧ H = [] := by
  obtain ⟨ax, ay, az⟩ := a
  obtain ⟨bx, by', bz⟩ := b
  simp only [Vec3.in] at ha hb
  refine acalls_of (N := 21) Tryz.func178 rfl rfl (by simp) fun E hE => ?_
  repeat' (first
    | (with_reducible refine aw_seq ?_) | (with_reducible refine aseq_n ?_) | (with_reducible refine aseq_r ?_) | (with_reducible refine ablk_n ?_) | (with_reducible refine ablk_r ?_) | (with_reducible refine ablk_e ?_) | (with_reducible refine ablk_o rfl ?_) | (with_reducible refine aseq_e ?_) | (with_reducible refine aw_skip ?_) | (with_reducible refine aw_block ?_) | (with_reducible refine aw_ret ?_) | (with_reducible refine aw_exit ?_)
    | refine aw_cond_t rfl ?_ | refine aw_cond_f rfl ?_ | refine aw_if_t rfl (by assumption) ?_ | refine aw_if_f rfl (by assumption) ?_ | refine aw_if rfl (fun _ => ?_) (fun _ => ?_) | refine aw_cond rfl (fun _ => ?_) (fun _ => ?_)
    | (refine aw_region ?_; refine WE ?_))
  exact aret_a [] _ rfl (KK (t := 34) rfl) rfl (Cells.box rfl) (by simp) (by (try simp only [nm, putL, Nat.reduceAdd, cellsOf, cvOf]) <;> rfl) (by decide) (ZNK rfl) (fun _ => C0 rfl) (fun _ => .nil) ⟨rfl, rfl⟩
theorem rminus_v (a b : Vec3) (ha : a.in 1000000) (hb : b.in 1000000) : ACalls Tryz.prog 156 [.a (a.row.map .c), .a (b.row.map .c)] [] fun u H => u = .a ((sub3 a b).row.map .c) ∧ H = [] := by
  obtain ⟨ax, ay, az⟩ := a
  obtain ⟨bx, by', bz⟩ := b
  simp only [Vec3.in] at ha hb
  refine acalls_of (N := 21) Tryz.func156 rfl rfl (by simp) fun E hE => ?_
  repeat' (first
    | (with_reducible refine aw_seq ?_) | (with_reducible refine aseq_n ?_) | (with_reducible refine aseq_r ?_) | (with_reducible refine ablk_n ?_) | (with_reducible refine ablk_r ?_) | (with_reducible refine ablk_e ?_) | (with_reducible refine ablk_o rfl ?_) | (with_reducible refine aseq_e ?_) | (with_reducible refine aw_skip ?_) | (with_reducible refine aw_block ?_) | (with_reducible refine aw_ret ?_) | (with_reducible refine aw_exit ?_)
    | refine aw_cond_t rfl ?_ | refine aw_cond_f rfl ?_ | refine aw_if_t rfl (by assumption) ?_ | refine aw_if_f rfl (by assumption) ?_ | refine aw_if rfl (fun _ => ?_) (fun _ => ?_) | refine aw_cond rfl (fun _ => ?_) (fun _ => ?_)
    | (refine aw_region ?_; refine WE ?_))
  exact aret_a [] _ rfl (KK (t := 34) rfl) rfl (Cells.box rfl) (by simp) (by (try simp only [nm, putL, Nat.reduceAdd, cellsOf, cvOf]) <;> rfl) (by decide) (ZNK rfl) (fun _ => C0 rfl) (fun _ => .nil) ⟨rfl, rfl⟩
theorem cross_v (a b : Vec3) (ha : a.in 200000) (hb : b.in 200000) : ACalls Tryz.prog 177 [.a (a.row.map .c), .a (b.row.map .c)] [] fun u H => u = .a ((crs a b).row.map .c) ∧ H = [] := by
  obtain ⟨ax, ay, az⟩ := a
  obtain ⟨bx, by', bz⟩ := b
  simp only [Vec3.in] at ha hb
  have p1 := prod_in (by omega) ha.2.1 hb.2.2
  have p2 := prod_in (by omega) ha.2.2 hb.2.1
  have p3 := prod_in (by omega) ha.2.2 hb.1
  have p4 := prod_in (by omega) ha.1 hb.2.2
  have p5 := prod_in (by omega) ha.1 hb.2.1
  have p6 := prod_in (by omega) ha.2.1 hb.1
  refine acalls_of (N := 39) Tryz.func177 rfl rfl (by simp) fun E hE => ?_
  repeat' (first
    | (with_reducible refine aw_seq ?_) | (with_reducible refine aseq_n ?_) | (with_reducible refine aseq_r ?_) | (with_reducible refine ablk_n ?_) | (with_reducible refine ablk_r ?_) | (with_reducible refine ablk_e ?_) | (with_reducible refine ablk_o rfl ?_) | (with_reducible refine aseq_e ?_) | (with_reducible refine aw_skip ?_) | (with_reducible refine aw_block ?_) | (with_reducible refine aw_ret ?_) | (with_reducible refine aw_exit ?_)
    | refine aw_cond_t rfl ?_ | refine aw_cond_f rfl ?_ | refine aw_if_t rfl (by assumption) ?_ | refine aw_if_f rfl (by assumption) ?_ | refine aw_if rfl (fun _ => ?_) (fun _ => ?_) | refine aw_cond rfl (fun _ => ?_) (fun _ => ?_)
    | (refine aw_region ?_; refine WE ?_))
  exact aret_a [] _ rfl (KK (t := 34) rfl) rfl (Cells.box rfl) (by simp) (by (try simp only [nm, putL, Nat.reduceAdd, cellsOf, cvOf]) <;> rfl) (by decide) (ZNK rfl) (fun _ => C0 rfl) (fun _ => .nil) ⟨rfl, rfl⟩
theorem rcross_v (a b : Vec3) (ha : a.in 200000) (hb : b.in 200000) : ACalls Tryz.prog 155 [.a (a.row.map .c), .a (b.row.map .c)] [] fun u H => u = .a ((crs a b).row.map .c) ∧ H = [] := by
  obtain ⟨ax, ay, az⟩ := a
  obtain ⟨bx, by', bz⟩ := b
  simp only [Vec3.in] at ha hb
  have p1 := prod_in (by omega) ha.2.1 hb.2.2
  have p2 := prod_in (by omega) ha.2.2 hb.2.1
  have p3 := prod_in (by omega) ha.2.2 hb.1
  have p4 := prod_in (by omega) ha.1 hb.2.2
  have p5 := prod_in (by omega) ha.1 hb.2.1
  have p6 := prod_in (by omega) ha.2.1 hb.1
  refine acalls_of (N := 39) Tryz.func155 rfl rfl (by simp) fun E hE => ?_
  repeat' (first
    | (with_reducible refine aw_seq ?_) | (with_reducible refine aseq_n ?_) | (with_reducible refine aseq_r ?_) | (with_reducible refine ablk_n ?_) | (with_reducible refine ablk_r ?_) | (with_reducible refine ablk_e ?_) | (with_reducible refine ablk_o rfl ?_) | (with_reducible refine aseq_e ?_) | (with_reducible refine aw_skip ?_) | (with_reducible refine aw_block ?_) | (with_reducible refine aw_ret ?_) | (with_reducible refine aw_exit ?_)
    | refine aw_cond_t rfl ?_ | refine aw_cond_f rfl ?_ | refine aw_if_t rfl (by assumption) ?_ | refine aw_if_f rfl (by assumption) ?_ | refine aw_if rfl (fun _ => ?_) (fun _ => ?_) | refine aw_cond rfl (fun _ => ?_) (fun _ => ?_)
    | (refine aw_region ?_; refine WE ?_))
  exact aret_a [] _ rfl (KK (t := 34) rfl) rfl (Cells.box rfl) (by simp) (by (try simp only [nm, putL, Nat.reduceAdd, cellsOf, cvOf]) <;> rfl) (by decide) (ZNK rfl) (fun _ => C0 rfl) (fun _ => .nil) ⟨rfl, rfl⟩

/-- The vertex at a place. -/
theorem vrow {V : List Vec3} {i : Nat} (h : i < V.length) : (V.map Vec3.row)[i]? = some (vx V i).row := by
  rw [List.getElem?_map, List.getElem?_eq_getElem h]
  simp [vx, h]
theorem nearI {V : List Vec3} (hV : ∀ v ∈ V, farV v = false) {i : Nat} (h : i < V.length) : (vx V i).in 100000 := by
  have h1 := hV _ (vx_mem (V := V) (i := i) (by omega) (by omega))
  simp only [farV, farI, Bool.or_eq_false_iff, decide_eq_false_iff_not] at h1
  simp only [Vec3.in]
  omega
theorem Vec3.in_mono {v : Vec3} {M N : Int} (h : v.in M) (hM : M ≤ N) : v.in N := by
  simp only [Vec3.in] at h ⊢; omega
theorem sub3_in {a b : Vec3} {M N : Int} (ha : a.in M) (hb : b.in N) : (sub3 a b).in (M + N) := by
  simp only [Vec3.in, sub3] at ha hb ⊢; omega
theorem nrm_v (v w : Value) (V : List Vec3) (fr : List (List CV)) (ia ib ic : Nat) (hV : ∀ v ∈ V, farV v = false) (ha : ia < V.length) (hb : ib < V.length) (hc : ic < V.length) :
    ACalls Tryz.prog 125 [.a [.c (.r v (V.map Vec3.row)), .c (.r w fr)], .a [.c (I ia), .c (I ib), .c (I ic)]] [] fun u H => u = .a ((nrm V ⟨ia, ib, ic⟩).row.map .c) ∧ H = [] := by
  have ra := vrow ha
  have rb := vrow hb
  have rc := vrow hc
  refine acalls_of (N := 29) Tryz.func125 rfl rfl (by simp) fun E hE => ?_
  refine WA ?_
  refine WA ?_
  refine ZZ ?_
  refine aw_regionT [(0, none), (1, none), (2, none), (3, none), (4, none), (5, none), (6, none), (8, none), (9, none), (10, none), (11, none), (12, none), (13, none), (14, none), (7, some [8, 9, 10, 11, 12, 13, 14]), (15, some []), (16, some []), (17, some [])] hMixed (by kernel_rfl) ?_
  refine WP ?_
  refine at_ef rfl rfl (ef_call0 false (fun _ => less_v (vx V ib) (vx V ia) (Vec3.in_mono (nearI hV (by omega)) (by omega)) (Vec3.in_mono (nearI hV (by omega)) (by omega))) rfl .fn rfl (by decide) (by kernel_rfl) rfl (fun _ => C0 rfl) (by simp)) ?_
  rintro _ _ ⟨_, _, _, ⟨rfl, rfl⟩, hF, hH⟩
  (try simp only [nsl, Nat.reduceAdd, Nat.reduceLT, Nat.reduceSub] at hF); (try simp only [nsl, Nat.reduceAdd, Nat.reduceLT, Nat.reduceSub] at hH); subst hF; subst hH
  refine ⟨ag_cons (by first | exact ag_rd rfl rfl rfl (ZX (KF (t := 29) (f := 0) rfl rfl)) rfl) (ag_cons (by first | exact ag_rd rfl rfl rfl (ZL (KK (t := 26) rfl)) rfl) (ag_cons (by first | exact ag_rd rfl rfl rfl (ZX (KF (t := 140) (f := 2) rfl rfl)) rfl) (ag_cons (by first | exact ag_rd rfl rfl rfl (ZL (KK (t := 3) rfl)) rfl) (ag_cons (by first | exact ag_rd rfl rfl rfl (ZI (KE (t := 26) rfl)) rfl | exact ag_rd rfl rfl rfl (ZJ (KE (t := 26) rfl)) rfl | exact ag_rd rfl rfl rfl (rd_indexj rfl (KE (t := 26) rfl) rfl rfl rfl (by first | rfl | omega) (by omega) (by omega)) rfl) (ag_cons (by first | exact ag_rd rfl rfl rfl (ZK (KK (t := 34) rfl)) rfl) (ag_cons (by first | exact ag_rd rfl rfl rfl (ZK (KK (t := 34) rfl)) rfl) (ag_none))))))), ?_⟩
  refine at_ef rfl rfl (ef_call0 false (fun _ => less_v (vx V ic) (vx V ia) (Vec3.in_mono (nearI hV (by omega)) (by omega)) (Vec3.in_mono (nearI hV (by omega)) (by omega))) rfl .fn rfl (by decide) (by kernel_rfl) rfl (fun _ => C0 rfl) (by simp)) ?_
  rintro _ _ ⟨_, _, _, ⟨rfl, rfl⟩, hF, hH⟩
  (try simp only [nsl, Nat.reduceAdd, Nat.reduceLT, Nat.reduceSub] at hF); (try simp only [nsl, Nat.reduceAdd, Nat.reduceLT, Nat.reduceSub] at hH); subst hF; subst hH
  refine ⟨ag_none, ?_⟩
  refine at_ef rfl rfl (ef_call0 false (fun _ => cross_v (sub3 (vx V ib) (vx V ia)) (sub3 (vx V ic) (vx V ia)) (Vec3.in_mono (sub3_in (nearI hV (by omega)) (nearI hV (by omega))) (by omega)) (Vec3.in_mono (sub3_in (nearI hV (by omega)) (nearI hV (by omega))) (by omega))) rfl .fn rfl (by decide) (by kernel_rfl) rfl (fun _ => C0 rfl) (by simp)) ?_
  rintro _ _ ⟨_, _, _, ⟨rfl, rfl⟩, hF, hH⟩
  (try simp only [nsl, Nat.reduceAdd, Nat.reduceLT, Nat.reduceSub] at hF); (try simp only [nsl, Nat.reduceAdd, Nat.reduceLT, Nat.reduceSub] at hH); subst hF; subst hH
  refine ⟨ag_none, ?_⟩
  refine WQ ?_
  exact aret_a [] _ rfl (KK (t := 34) rfl) rfl (Cells.box rfl) (by simp) (by (try simp only [nm, putL, Nat.reduceAdd, cellsOf, cvOf]) <;> rfl) (by decide) (ZNK rfl) (fun _ => C0 rfl) (fun _ => .nil) ⟨rfl, rfl⟩
end Go.Proofs.YthanangkmjjbaaaGreatDoor
