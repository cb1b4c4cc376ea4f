/- How long a program takes, by value. -/
import Derived.Test.YtdmeohgojdfmoaaGreatQav
import Derived.Test.YtdmeohgojdfmoaaGreatQaz
set_option linter.unusedSimpArgs false
set_option linter.unusedVariables false
/- How long a program takes, by value. -/
namespace Go.Proofs.YtdmeohgojdfmoaaGreat
open Go Go.RowKit
set_option maxRecDepth 100000
-- NEWM
def Mach.bnd (k : Int) (m : Mach) : Prop := (-200000 * k ≤ m.x ∧ m.x ≤ 200000 * k) ∧ (-200000 * k ≤ m.y ∧ m.y ≤ 200000 * k) ∧ (-1000000 * k ≤ m.z ∧ m.z ≤ 1000000 * k) ∧ (0 ≤ m.sp ∧ m.sp ≤ 100000) ∧ (0 ≤ m.fl ∧ m.fl ≤ 100000000 * k)
def Step.good (s : Step) : Prop := (1 ≤ s.k ∧ s.k ≤ 9) ∧ (-200000 ≤ s.x ∧ s.x ≤ 200000) ∧ (-200000 ≤ s.y ∧ s.y ≤ 200000) ∧ (-1000000 ≤ s.z ∧ s.z ≤ 1000000) ∧ (0 ≤ s.f ∧ s.f ≤ 100000000) ∧ (s.k = 6 → 1 ≤ s.n ∧ s.n ≤ 100000) ∧ (s.k = 7 → 0 ≤ s.n ∧ s.n ≤ 10000000)
theorem faultS_good {s : Step} (h : faultS s = 0) : s.good := by
  unfold faultS at h
  unfold Step.good
  split at h
  · omega
  · split at h
    · omega
    · split at h
      · omega
      · omega
theorem relS_bnd {r : Bool} {a b A Bd : Int} (ha : -A ≤ a ∧ a ≤ A) (hb : -Bd ≤ b ∧ b ≤ Bd) (hA : 0 ≤ A) (hs : A + Bd ≤ 9000000000000000000) : -(A + Bd) ≤ relS r a b ∧ relS r a b ≤ A + Bd := by
  unfold relS
  split
  · rw [IntWalk.wrap64_in _ (by constructor <;> omega)]; omega
  · omega
theorem afterS_bnd {m : Mach} {s : Step} {k : Int} (h0 : 0 ≤ k) (hk : k ≤ 5000) (hs : s.good) (hm : m.bnd k) : (afterS m s).bnd (k + 1) := by
  obtain ⟨s1, s2, s3, s4, s5, s6, s7⟩ := hs
  obtain ⟨m1, m2, m3, m4, m5⟩ := hm
  have r1 := relS_bnd (r := m.rel) (a := m.x) (b := s.x) (A := 200000 * k) (Bd := 200000) (by omega) (by omega) (by omega) (by omega)
  have r2 := relS_bnd (r := m.rel) (a := m.y) (b := s.y) (A := 200000 * k) (Bd := 200000) (by omega) (by omega) (by omega) (by omega)
  have r3 := relS_bnd (r := m.rel) (a := m.z) (b := s.z) (A := 1000000 * k) (Bd := 1000000) (by omega) (by omega) (by omega) (by omega)
  have r4 : wrap64 (m.fl + s.f) = m.fl + s.f := IntWalk.wrap64_in _ (by constructor <;> omega)
  unfold afterS Mach.bnd
  repeat' split
  all_goals try dsimp only
  all_goals refine ⟨⟨?_, ?_⟩, ⟨?_, ?_⟩, ⟨?_, ?_⟩, ⟨?_, ?_⟩, ⟨?_, ?_⟩⟩
  all_goals first | omega | (rw [r4]; omega)
theorem firstF_zero : ∀ {l : List Step}, firstF l = 0 → ∀ s ∈ l, faultS s = 0
  | [], _, s, hs => by cases hs
  | x :: l, h, s, hs => by
    rw [firstF] at h
    split at h
    · rcases List.mem_cons.1 hs with rfl | hs
      · assumption
      · exact firstF_zero h s hs
    · contradiction
theorem progF_zero {l : List Step} (h : progF l = 0) : l.length ≤ 5000 ∧ ∀ s ∈ l, s.good := by
  unfold progF at h
  split at h
  · cases h
  · exact ⟨by omega, fun s hs => faultS_good (firstF_zero h s hs)⟩
theorem lastS_bnd {l : List Step} (hl : l.length ≤ 5000) (hg : ∀ s ∈ l, s.good) : ∀ k : Nat, k ≤ l.length → (lastS (l.take k)).bnd k
  | 0, _ => by simp [lastS, Mach.bnd]
  | k + 1, hk => by
    obtain ⟨s, hs⟩ : ∃ s, l[k]? = some s := ⟨_, List.getElem?_eq_getElem (by omega)⟩
    rw [lastS_succ hs]
    have := afterS_bnd (k := k) (by omega) (by omega) (hg s (List.mem_of_getElem? hs)) (lastS_bnd hl hg k (by omega))
    exact_mod_cast this
def absI (n : Int) : Int := max n (-n)
def farS (a b : Mach) : Int := max (max (absI (a.x - b.x)) (absI (a.y - b.y))) (absI (a.z - b.z))
def timeE (s : Step) (a b : Mach) : Int := (if s.k = 7 then s.n else 0) + (if 0 < b.sp then (1000 * farS a b + b.sp - 1) / b.sp else 0)
def timeK (l : List Step) : Nat → Int
  | 0 => 0
  | k + 1 => match l[k]? with
    | some s => timeK l k + timeE s (lastS (l.take k)) (lastS (l.take (k + 1)))
    | none => timeK l k
theorem timeK_succ {l : List Step} {k : Nat} {s : Step} (h : l[k]? = some s) : timeK l (k + 1) = timeK l k + timeE s (lastS (l.take k)) (lastS (l.take (k + 1))) := by
  simp only [timeK, h]
theorem farS_bnd {a b : Mach} {k : Int} (hk : k ≤ 5000) (ha : a.bnd k) (hb : b.bnd (k + 1)) : 0 ≤ farS a b ∧ farS a b ≤ 20000000000 := by
  obtain ⟨a1, a2, a3, a4, a5⟩ := ha
  obtain ⟨b1, b2, b3, b4, b5⟩ := hb
  unfold farS absI
  omega
theorem ceil_bnd {x b : Int} (hx : 0 ≤ x) (hb : 0 < b) : 0 ≤ (x + b - 1) / b ∧ (x + b - 1) / b ≤ x := by
  refine ⟨Int.ediv_nonneg (by omega) (by omega), ?_⟩
  by_cases h : 0 < x
  · have : (x + b - 1) / b < x + 1 := by
      refine Int.ediv_lt_of_lt_mul hb ?_
      have : x + b - 1 < x + b := by omega
      have h2 : x + b ≤ (x + 1) * b := by
        have : 0 ≤ x * (b - 1) := Int.mul_nonneg hx (by omega)
        rw [Int.add_mul, Int.one_mul]
        rw [Int.mul_sub, Int.mul_one] at this
        omega
      omega
    omega
  · obtain rfl : x = 0 := by omega
    rw [Int.ediv_eq_zero_of_lt (by omega) (by omega)]
    omega
theorem timeE_bnd {s : Step} {a b : Mach} {k : Int} (hk : k ≤ 5000) (hs : s.good) (ha : a.bnd k) (hb : b.bnd (k + 1)) : 0 ≤ timeE s a b ∧ timeE s a b ≤ 30000000000000 := by
  have h1 := farS_bnd hk ha hb
  obtain ⟨s1, s2, s3, s4, s5, s6, s7⟩ := hs
  unfold timeE
  split
  · split
    · have := ceil_bnd (x := 1000 * farS a b) (b := b.sp) (by omega) (by omega)
      omega
    · omega
  · split
    · have := ceil_bnd (x := 1000 * farS a b) (b := b.sp) (by omega) (by omega)
      omega
    · omega
theorem timeK_bnd {l : List Step} (hl : l.length ≤ 5000) (hg : ∀ s ∈ l, s.good) : ∀ k : Nat, k ≤ l.length → 0 ≤ timeK l k ∧ timeK l k ≤ 30000000000000 * k
  | 0, _ => by simp [timeK]
  | k + 1, hk => by
    obtain ⟨s, hs⟩ : ∃ s, l[k]? = some s := ⟨_, List.getElem?_eq_getElem (by omega)⟩
    rw [timeK_succ hs]
    have h1 := timeK_bnd hl hg k (by omega)
    have h2 := timeE_bnd (k := k) (by omega) (hg s (List.mem_of_getElem? hs)) (lastS_bnd hl hg k (by omega)) (by exact_mod_cast lastS_bnd hl hg (k + 1) hk)
    omega
theorem cabs_a (n : Int) (h : -9223372036854775807 ≤ n ∧ n ≤ 9223372036854775807) : ACalls Tryz.prog 25 [.c (I n)] [] fun u H => u = .c (I (absI n)) ∧ H = [] := by
  refine acalls_of (N := 7) Tryz.func25 rfl rfl (by simp) fun E hE => ?_
  refine WA ?_
  refine WA ?_
  exact aret_1 [] _ rfl rfl rfl (by decide) (ZNK rfl) (fun _ => .nil) ⟨rfl, rfl⟩
theorem place_a (m : Mach) : ACalls Tryz.prog 24 [.a (m.row.map .c)] [] fun u H => u = .a ((⟨m.x, m.y⟩ : Pt).row.map .c) ∧ H = [] := by
  refine acalls_of (N := 8) Tryz.func24 rfl rfl (by simp) fun E hE => ?_
  refine WA ?_
  refine WA ?_
  exact aret_a [] [] rfl (KK (t := 39) rfl) rfl (Cells.box rfl) (by simp) (by (try simp only [nm, putL, Nat.reduceAdd, cellsOf, cvOf]) <;> rfl) (by decide) (ZNK rfl) (fun _ => C0 rfl) (fun _ => .nil) ⟨rfl, rfl⟩
/-- What a step moves. -/
structure Moved (s : Step) (a b : Mach) : Prop where
  pl : s.k ≠ 3 ∧ s.k ≠ 4 → b.x = a.x ∧ b.y = a.y
  ly : s.k ≠ 5 → b.z = a.z
theorem moved_after (s : Step) (a : Mach) : Moved s a (afterS a s) := by
  constructor
  · intro h
    unfold afterS
    repeat' split
    all_goals first | exact ⟨rfl, rfl⟩ | (exfalso; omega)
  · intro h
    unfold afterS
    repeat' split
    all_goals first | rfl | (exfalso; omega)
abbrev timH (l : List Step) (v : Value) (n : Int) : List OB := [.box [.c (prog_r v l)], .box [.c (I n)]]
set_option maxHeartbeats 4000000 in
theorem time1_a (l : List Step) (v : Value) (k : Nat) (s : Step) (hs : l[k]? = some s) (hsg : s.good) (a b : Mach) (hmv : Moved s a b) (hk : k ≤ 5000) (ha : a.bnd k) (hb : b.bnd (k + 1)) (n : Int) (hn : 0 ≤ n ∧ n ≤ 200000000000000000) :
    ACalls Tryz.prog 22 [.c (I k), .a (a.row.map .c), .a (b.row.map .c), .p 0 0 0, .p 1 0 0] (timH l v n) fun u H => u = .t [] ∧ H = timH l v (n + timeE s a b) := by
  have e1 : (l.map Step.row).length = l.length := by simp
  have hlt : k < l.length := (List.getElem?_eq_some_iff.1 hs).1
  have hrow : (l.map Step.row)[k]? = some s.row := by rw [List.getElem?_map, hs]; rfl
  have hfb := farS_bnd (k := k) (by omega) ha hb
  obtain ⟨mv1, mv2⟩ := hmv
  obtain ⟨⟨a1, a1'⟩, ⟨a2, a2'⟩, ⟨a3, a3'⟩, ⟨a4, a4'⟩, a5⟩ := ha
  obtain ⟨⟨b1, b1'⟩, ⟨b2, b2'⟩, ⟨b3, b3'⟩, ⟨b4, b4'⟩, b5⟩ := hb
  obtain ⟨s1, s2, s3, s4, s5, s6, s7⟩ := hsg
  refine acalls_of (N := 55) Tryz.func22 rfl rfl (by simp) fun E hE => ?_
  refine WA ?_
  refine WA ?_
  refine WR ?_
  refine al_nil ?_
  refine aseq_n ?_
  refine aw_cut (fun F H => ∃ f n' : Int, f = farS a b ∧ n' = n + (if s.k = 7 then s.n else 0) ∧ F = [(4, .p 1 0 0), (6, .p 2 0 0), (7, .p 3 0 0), (8, .c (I f))] ∧ H = [.box [.c (prog_r v l)], .box [.c (I n')], .box (a.row.map .c), .box (b.row.map .c)]) ?_ ?_ wk_aw
  · by_cases h5 : s.k = 5
    · repeat' (first
        | (with_reducible refine aw_seq ?_) | (with_reducible refine aseq_n ?_) | (with_reducible refine aseq_r ?_) | (with_reducible refine ablk_n ?_) | (with_reducible refine ablk_r ?_) | (with_reducible refine ablk_e ?_) | (with_reducible refine ablk_o rfl ?_) | (with_reducible refine aseq_e ?_) | (with_reducible refine aw_skip ?_) | (with_reducible refine aw_block ?_) | (with_reducible refine aw_ret ?_) | (with_reducible refine aw_exit ?_)
        | refine aw_cond_t rfl ?_ | refine aw_cond_f rfl ?_ | refine aw_if_t rfl (by assumption) ?_ | refine aw_if_f rfl (by assumption) ?_ | refine aw_if rfl (fun _ => ?_) (fun _ => ?_) | refine aw_cond rfl (fun _ => ?_) (fun _ => ?_)
        | (refine aw_region (id := 3) ?_
           refine WO ?_
           refine al_ef rfl (ef_call0 false (fun _ => isplaced_h _) rfl .fn rfl (by decide) (by kernel_rfl) rfl (fun _g => .cons (.c rfl) .nil) (by simp)) ?_
           rintro _ _ ⟨_, _, _, ⟨b, rfl, rfl, hb1, hb2⟩, hF, hH⟩
           (try simp only [nsl, Nat.reduceAdd, Nat.reduceLT, Nat.reduceSub] at hF); (try simp only [nsl, Nat.reduceAdd, Nat.reduceLT, Nat.reduceSub] at hH); subst hF; subst hH
           cases b
           all_goals (simp only [true_implies, false_implies, reduceCtorEq] at hb1 hb2)
           all_goals (refine WE ?_))
        | (refine aw_regionT (id := 4) [(0, none), (2, none), (1, some [2]), (3, some []), (4, some []), (5, none)] hMixed (by kernel_rfl) ?_
           refine WP ?_
           refine at_ef rfl rfl (ef_call0 false (fun _ => place_a a) rfl .fn rfl (by decide) (by kernel_rfl) rfl (fun _ => C0 rfl) (by simp)) ?_
           rintro _ _ ⟨_, _, _, ⟨rfl, rfl⟩, hF, hH⟩
           (try simp only [nsl, Nat.reduceAdd, Nat.reduceLT, Nat.reduceSub] at hF); (try simp only [nsl, Nat.reduceAdd, Nat.reduceLT, Nat.reduceSub] at hH); subst hF; subst hH
           refine ⟨ag_cons (by first | exact ag_rd rfl rfl rfl (ZK (KK (t := 71) rfl)) rfl) (ag_none), ?_⟩
           refine at_ef rfl rfl (ef_call0 false (fun _ => place_a b) rfl .fn rfl (by decide) (by kernel_rfl) rfl (fun _ => C0 rfl) (by simp)) ?_
           rintro _ _ ⟨_, _, _, ⟨rfl, rfl⟩, hF, hH⟩
           (try simp only [nsl, Nat.reduceAdd, Nat.reduceLT, Nat.reduceSub] at hF); (try simp only [nsl, Nat.reduceAdd, Nat.reduceLT, Nat.reduceSub] at hH); subst hF; subst hH
           refine ⟨ag_none, ?_⟩
           refine at_ef rfl rfl (ef_call0 false (fun _ => dist_a ⟨a.x, a.y⟩ ⟨b.x, b.y⟩ (by simp only; omega) (by simp only; omega) (by simp only; omega) (by simp only; omega)) rfl .fn rfl (by decide) (by kernel_rfl) rfl (fun _ => C0 rfl) (by simp)) ?_
           rintro _ _ ⟨_, _, _, ⟨rfl, rfl⟩, hF, hH⟩
           (try simp only [nsl, Nat.reduceAdd, Nat.reduceLT, Nat.reduceSub] at hF); (try simp only [nsl, Nat.reduceAdd, Nat.reduceLT, Nat.reduceSub] at hH); subst hF; subst hH
           refine ⟨ag_none, ?_⟩
           refine WQ ?_)
        | (refine aw_region (id := 5) ?_
           refine WE ?_)
        | (refine aw_region (id := 6) ?_
           refine WO ?_
           refine al_ef rfl (ef_call0 false (fun _ => cabs_a (b.z - a.z) (by omega)) rfl .fn rfl (by decide) (by kernel_rfl) rfl (fun _ => C0 rfl) (by simp)) ?_
           rintro _ _ ⟨_, _, _, ⟨rfl, rfl⟩, hF, hH⟩
           (try simp only [nsl, Nat.reduceAdd, Nat.reduceLT, Nat.reduceSub] at hF); (try simp only [nsl, Nat.reduceAdd, Nat.reduceLT, Nat.reduceSub] at hH); subst hF; subst hH
           refine WE ?_)
        | (refine aw_region (id := 7) ?_
           refine WE ?_)
        | (refine aw_region (id := 8) ?_
           refine WE ?_))
      all_goals try (exfalso; omega)
      all_goals refine wk_of [some 0, some 1, some 2, some 3] (fun _ => [(4, .p 1 0 0), (6, .p 2 0 0), (7, .p 3 0 0), (8, .c (I _))]) (fun _ => [.box [.c (prog_r v l)], .box [.c (I _)], .box (a.row.map .c), .box (b.row.map .c)]) (by decide) (ZNL hE) ZCF ZCH (fun _ => ⟨_, _, ?_, ?_, rfl, rfl⟩)
      all_goals first | ((unfold farS absI; try unfold distF); (try dsimp only); omega) | (first | rw [if_pos (by omega)] | (rw [if_neg (by omega)]; omega))
    · by_cases h7 : s.k = 7
      · repeat' (first
          | (with_reducible refine aw_seq ?_) | (with_reducible refine aseq_n ?_) | (with_reducible refine aseq_r ?_) | (with_reducible refine ablk_n ?_) | (with_reducible refine ablk_r ?_) | (with_reducible refine ablk_e ?_) | (with_reducible refine ablk_o rfl ?_) | (with_reducible refine aseq_e ?_) | (with_reducible refine aw_skip ?_) | (with_reducible refine aw_block ?_) | (with_reducible refine aw_ret ?_) | (with_reducible refine aw_exit ?_)
          | refine aw_cond_t rfl ?_ | refine aw_cond_f rfl ?_ | refine aw_if_t rfl (by assumption) ?_ | refine aw_if_f rfl (by assumption) ?_ | refine aw_if rfl (fun _ => ?_) (fun _ => ?_) | refine aw_cond rfl (fun _ => ?_) (fun _ => ?_)
          | (refine aw_region (id := 3) ?_
             refine WO ?_
             refine al_ef rfl (ef_call0 false (fun _ => isplaced_h _) rfl .fn rfl (by decide) (by kernel_rfl) rfl (fun _g => .cons (.c rfl) .nil) (by simp)) ?_
             rintro _ _ ⟨_, _, _, ⟨b, rfl, rfl, hb1, hb2⟩, hF, hH⟩
             (try simp only [nsl, Nat.reduceAdd, Nat.reduceLT, Nat.reduceSub] at hF); (try simp only [nsl, Nat.reduceAdd, Nat.reduceLT, Nat.reduceSub] at hH); subst hF; subst hH
             cases b
             all_goals (simp only [true_implies, false_implies, reduceCtorEq] at hb1 hb2)
             all_goals (refine WE ?_))
          | (refine aw_regionT (id := 4) [(0, none), (2, none), (1, some [2]), (3, some []), (4, some []), (5, none)] hMixed (by kernel_rfl) ?_
             refine WP ?_
             refine at_ef rfl rfl (ef_call0 false (fun _ => place_a a) rfl .fn rfl (by decide) (by kernel_rfl) rfl (fun _ => C0 rfl) (by simp)) ?_
             rintro _ _ ⟨_, _, _, ⟨rfl, rfl⟩, hF, hH⟩
             (try simp only [nsl, Nat.reduceAdd, Nat.reduceLT, Nat.reduceSub] at hF); (try simp only [nsl, Nat.reduceAdd, Nat.reduceLT, Nat.reduceSub] at hH); subst hF; subst hH
             refine ⟨ag_cons (by first | exact ag_rd rfl rfl rfl (ZK (KK (t := 71) rfl)) rfl) (ag_none), ?_⟩
             refine at_ef rfl rfl (ef_call0 false (fun _ => place_a b) rfl .fn rfl (by decide) (by kernel_rfl) rfl (fun _ => C0 rfl) (by simp)) ?_
             rintro _ _ ⟨_, _, _, ⟨rfl, rfl⟩, hF, hH⟩
             (try simp only [nsl, Nat.reduceAdd, Nat.reduceLT, Nat.reduceSub] at hF); (try simp only [nsl, Nat.reduceAdd, Nat.reduceLT, Nat.reduceSub] at hH); subst hF; subst hH
             refine ⟨ag_none, ?_⟩
             refine at_ef rfl rfl (ef_call0 false (fun _ => dist_a ⟨a.x, a.y⟩ ⟨b.x, b.y⟩ (by simp only; omega) (by simp only; omega) (by simp only; omega) (by simp only; omega)) rfl .fn rfl (by decide) (by kernel_rfl) rfl (fun _ => C0 rfl) (by simp)) ?_
             rintro _ _ ⟨_, _, _, ⟨rfl, rfl⟩, hF, hH⟩
             (try simp only [nsl, Nat.reduceAdd, Nat.reduceLT, Nat.reduceSub] at hF); (try simp only [nsl, Nat.reduceAdd, Nat.reduceLT, Nat.reduceSub] at hH); subst hF; subst hH
             refine ⟨ag_none, ?_⟩
             refine WQ ?_)
          | (refine aw_region (id := 5) ?_
             refine WE ?_)
          | (refine aw_region (id := 6) ?_
             refine WO ?_
             refine al_ef rfl (ef_call0 false (fun _ => cabs_a (b.z - a.z) (by omega)) rfl .fn rfl (by decide) (by kernel_rfl) rfl (fun _ => C0 rfl) (by simp)) ?_
             rintro _ _ ⟨_, _, _, ⟨rfl, rfl⟩, hF, hH⟩
             (try simp only [nsl, Nat.reduceAdd, Nat.reduceLT, Nat.reduceSub] at hF); (try simp only [nsl, Nat.reduceAdd, Nat.reduceLT, Nat.reduceSub] at hH); subst hF; subst hH
             refine WE ?_)
          | (refine aw_region (id := 7) ?_
             refine WE ?_)
          | (refine aw_region (id := 8) ?_
             refine WE ?_))
        all_goals try (exfalso; omega)
        all_goals refine wk_of [some 0, some 1, some 2, some 3] (fun _ => [(4, .p 1 0 0), (6, .p 2 0 0), (7, .p 3 0 0), (8, .c (I _))]) (fun _ => [.box [.c (prog_r v l)], .box [.c (I _)], .box (a.row.map .c), .box (b.row.map .c)]) (by decide) (ZNL hE) ZCF ZCH (fun _ => ⟨_, _, ?_, ?_, rfl, rfl⟩)
        all_goals first | ((unfold farS absI; try unfold distF); (try dsimp only); omega) | (first | rw [if_pos (by omega)] | (rw [if_neg (by omega)]; omega))
      · repeat' (first
          | (with_reducible refine aw_seq ?_) | (with_reducible refine aseq_n ?_) | (with_reducible refine aseq_r ?_) | (with_reducible refine ablk_n ?_) | (with_reducible refine ablk_r ?_) | (with_reducible refine ablk_e ?_) | (with_reducible refine ablk_o rfl ?_) | (with_reducible refine aseq_e ?_) | (with_reducible refine aw_skip ?_) | (with_reducible refine aw_block ?_) | (with_reducible refine aw_ret ?_) | (with_reducible refine aw_exit ?_)
          | refine aw_cond_t rfl ?_ | refine aw_cond_f rfl ?_ | refine aw_if_t rfl (by assumption) ?_ | refine aw_if_f rfl (by assumption) ?_ | refine aw_if rfl (fun _ => ?_) (fun _ => ?_) | refine aw_cond rfl (fun _ => ?_) (fun _ => ?_)
          | (refine aw_region (id := 3) ?_
             refine WO ?_
             refine al_ef rfl (ef_call0 false (fun _ => isplaced_h _) rfl .fn rfl (by decide) (by kernel_rfl) rfl (fun _g => .cons (.c rfl) .nil) (by simp)) ?_
             rintro _ _ ⟨_, _, _, ⟨b, rfl, rfl, hb1, hb2⟩, hF, hH⟩
             (try simp only [nsl, Nat.reduceAdd, Nat.reduceLT, Nat.reduceSub] at hF); (try simp only [nsl, Nat.reduceAdd, Nat.reduceLT, Nat.reduceSub] at hH); subst hF; subst hH
             cases b
             all_goals (simp only [true_implies, false_implies, reduceCtorEq] at hb1 hb2)
             all_goals (refine WE ?_))
          | (refine aw_regionT (id := 4) [(0, none), (2, none), (1, some [2]), (3, some []), (4, some []), (5, none)] hMixed (by kernel_rfl) ?_
             refine WP ?_
             refine at_ef rfl rfl (ef_call0 false (fun _ => place_a a) rfl .fn rfl (by decide) (by kernel_rfl) rfl (fun _ => C0 rfl) (by simp)) ?_
             rintro _ _ ⟨_, _, _, ⟨rfl, rfl⟩, hF, hH⟩
             (try simp only [nsl, Nat.reduceAdd, Nat.reduceLT, Nat.reduceSub] at hF); (try simp only [nsl, Nat.reduceAdd, Nat.reduceLT, Nat.reduceSub] at hH); subst hF; subst hH
             refine ⟨ag_cons (by first | exact ag_rd rfl rfl rfl (ZK (KK (t := 71) rfl)) rfl) (ag_none), ?_⟩
             refine at_ef rfl rfl (ef_call0 false (fun _ => place_a b) rfl .fn rfl (by decide) (by kernel_rfl) rfl (fun _ => C0 rfl) (by simp)) ?_
             rintro _ _ ⟨_, _, _, ⟨rfl, rfl⟩, hF, hH⟩
             (try simp only [nsl, Nat.reduceAdd, Nat.reduceLT, Nat.reduceSub] at hF); (try simp only [nsl, Nat.reduceAdd, Nat.reduceLT, Nat.reduceSub] at hH); subst hF; subst hH
             refine ⟨ag_none, ?_⟩
             refine at_ef rfl rfl (ef_call0 false (fun _ => dist_a ⟨a.x, a.y⟩ ⟨b.x, b.y⟩ (by simp only; omega) (by simp only; omega) (by simp only; omega) (by simp only; omega)) rfl .fn rfl (by decide) (by kernel_rfl) rfl (fun _ => C0 rfl) (by simp)) ?_
             rintro _ _ ⟨_, _, _, ⟨rfl, rfl⟩, hF, hH⟩
             (try simp only [nsl, Nat.reduceAdd, Nat.reduceLT, Nat.reduceSub] at hF); (try simp only [nsl, Nat.reduceAdd, Nat.reduceLT, Nat.reduceSub] at hH); subst hF; subst hH
             refine ⟨ag_none, ?_⟩
             refine WQ ?_)
          | (refine aw_region (id := 5) ?_
             refine WE ?_)
          | (refine aw_region (id := 6) ?_
             refine WO ?_
             refine al_ef rfl (ef_call0 false (fun _ => cabs_a (b.z - a.z) (by omega)) rfl .fn rfl (by decide) (by kernel_rfl) rfl (fun _ => C0 rfl) (by simp)) ?_
             rintro _ _ ⟨_, _, _, ⟨rfl, rfl⟩, hF, hH⟩
             (try simp only [nsl, Nat.reduceAdd, Nat.reduceLT, Nat.reduceSub] at hF); (try simp only [nsl, Nat.reduceAdd, Nat.reduceLT, Nat.reduceSub] at hH); subst hF; subst hH
             refine WE ?_)
          | (refine aw_region (id := 7) ?_
             refine WE ?_)
          | (refine aw_region (id := 8) ?_
             refine WE ?_))
        all_goals try (exfalso; omega)
        all_goals refine wk_of [some 0, some 1, some 2, some 3] (fun _ => [(4, .p 1 0 0), (6, .p 2 0 0), (7, .p 3 0 0), (8, .c (I _))]) (fun _ => [.box [.c (prog_r v l)], .box [.c (I _)], .box (a.row.map .c), .box (b.row.map .c)]) (by decide) (ZNL hE) ZCF ZCH (fun _ => ⟨_, _, ?_, ?_, rfl, rfl⟩)
        all_goals first | ((unfold farS absI; try unfold distF); (try dsimp only); omega) | (first | rw [if_pos (by omega)] | (rw [if_neg (by omega)]; omega))
  rintro F H ⟨f, n', rfl, rfl, rfl, rfl⟩
  refine WA ?_
  refine aw_if rfl (fun hp => ?_) (fun hp => ?_)
  · have hc := ceil_bnd (x := 1000 * farS a b) (b := b.sp) (by omega) (by omega)
    have hq : timeE s a b = (if s.k = 7 then s.n else 0) + (1000 * farS a b + b.sp - 1) / b.sp := by unfold timeE; rw [if_pos (show 0 < b.sp by omega)]
    have hif : 0 ≤ (if s.k = 7 then s.n else 0) ∧ (if s.k = 7 then s.n else 0) ≤ 10000000 := by split <;> omega
    generalize (if s.k = 7 then s.n else 0) = wt at *
    refine ZZ ?_
    refine aw_regionT [(0, none), (1, none), (2, none), (3, none), (4, none), (5, none), (6, none), (7, none), (8, none), (9, none), (10, none), (11, some [])] hMixed (by kernel_rfl) ?_
    refine WQ ?_
    all_goals exact aret_0 [some 0, some 1] (fun _ => timH l v (n + wt + (1000 * farS a b + b.sp - 1) / b.sp)) (.inr rfl) rfl (by decide) (ZNL (n := 2) rfl) ZCH (fun _ => ⟨rfl, by rw [hq, Int.add_assoc]⟩)
  · have hq : timeE s a b = (if s.k = 7 then s.n else 0) := by unfold timeE; rw [if_neg (show ¬ 0 < b.sp by omega)]; omega
    refine ZZ ?_
    exact aret_0 [some 0, some 1] (fun _ => timH l v (n + if s.k = 7 then s.n else 0)) (.inr rfl) rfl (by decide) (ZNL (n := 2) rfl) ZCH (fun _ => ⟨rfl, by rw [hq]⟩)
theorem runTim_a (l : List Step) (v : Value) (hl : l.length ≤ 5000) (hg : ∀ s ∈ l, s.good) (hok : ∀ s ∈ l, s.ok) : ACalls Tryz.prog 21 [.c (prog_r v l), .f (.func 22) [.p 0 0 0, .p 1 0 0]] (timH l v 0) fun u H => u = .a ((lastS l).row.map .c) ∧ H = timH l v (timeK l l.length) := by
  have e1 : (l.map Step.row).length = l.length := by simp
  refine acalls_of (N := 27) Tryz.func21 rfl rfl (by simp) fun E hE => ?_
  refine WA ?_
  refine WA ?_
  refine WA ?_
  refine aw_loopw (fun n F H => ∃ k : Nat, n + k = l.length ∧ F = [(1, .f (.func 22) [.p 0 0 0, .p 1 0 0]), (4, .p 2 0 0), (5, .p 3 0 0), (9, .c (prog_r v l)), (10, .c (I (l.map Step.row).length)), (11, .c (I k))] ∧ H = timH l v (timeK l k) ++ [.box (Mach.zero.row.map .c), .box ((lastS (l.take k)).row.map .c)]) ?_ ?_
  · refine wk_of [some 0, some 1, some 2, some 3] (fun _ => [(1, .f (.func 22) [.p 0 0 0, .p 1 0 0]), (4, .p 2 0 0), (5, .p 3 0 0), (9, .c (prog_r v l)), (10, .c (I (l.map Step.row).length)), (11, .c (I (0 : Nat)))]) (fun _ => [.box [.c (prog_r v l)], .box [.c (I (timeK l 0))], .box (Mach.zero.row.map .c), .box ((lastS (l.take 0)).row.map .c)]) (by decide) (ZNL hE) ZCF ZCH (fun _ => ?_)
    exact ⟨l.length, 0, by omega, rfl, rfl⟩
  rintro n F H ⟨k, hk, rfl, rfl⟩
  refine WA ?_
  refine aw_if rfl (fun hlt => ?_) (fun hge => ?_)
  · obtain ⟨s, hs⟩ : ∃ s, l[k]? = some s := ⟨_, List.getElem?_eq_getElem (by omega)⟩
    have hrow : (l.map Step.row)[k]? = some s.row := by rw [List.getElem?_map, hs]; rfl
    have hso := hok s (List.mem_of_getElem? hs)
    have hsg := hg s (List.mem_of_getElem? hs)
    have hfs := timeK_succ hs
    rw [lastS_succ hs] at hfs
    have htb := timeK_bnd hl hg k (by omega)
    have hba := lastS_bnd hl hg k (by omega)
    have hbb : (afterS (lastS (l.take k)) s).bnd ((k : Int) + 1) := by have := lastS_bnd hl hg (k + 1) (by omega); rw [lastS_succ hs] at this; exact_mod_cast this
    refine WA ?_
    refine WA ?_
    refine WR ?_
    refine al_ef rfl (ef_call0 false (fun _ => after_a (lastS (l.take k)) s hso) rfl .fn rfl (by decide) (by kernel_rfl) rfl (fun _ => C0 rfl) (by simp)) ?_
    rintro _ _ ⟨_, _, _, ⟨rfl, rfl⟩, hF, hH⟩
    (try simp only [nsl, Nat.reduceAdd, Nat.reduceLT, Nat.reduceSub] at hF); (try simp only [nsl, Nat.reduceAdd, Nat.reduceLT, Nat.reduceSub] at hH); subst hF; subst hH
    refine WE ?_
    refine WR ?_
    refine al_ef rfl (ef_call [0, 1] (fun _ => timH l v (timeK l k)) false (fun _ => time1_a l v k s hs hsg (lastS (l.take k)) (afterS (lastS (l.take k)) s) (moved_after _ _) (by omega) hba hbb (timeK l k) (by omega)) rfl (.clo rfl) rfl (by decide) (by kernel_rfl) rfl ZCH (by decide) ZCH (by simp)) ?_
    rintro F1 H1 ⟨_, _, _, _, ⟨rfl, hq⟩, hF, hH⟩
    subst hq
    (try simp only [List.set_cons_zero, List.set_cons_succ, updH, posOf, lentArr, killF, killO, killV, AV.has, AV.hasL, AV.emb, AV.embL, OB.emb, embB, List.filter_cons, List.filter_nil, List.getElem?_cons_zero, List.getElem?_cons_succ, List.getD_cons_zero, List.getD_cons_succ, List.drop_succ_cons, List.drop_zero, List.drop_nil, List.contains_cons, List.contains_nil, Nat.reduceBEq, Nat.reduceEqDiff, beq_self_eq_true, Bool.or_false, Bool.false_or, Bool.or_true, Bool.true_or, Bool.false_eq_true, Option.map_some, Option.map_none, List.map_cons, List.map_nil, List.cons_append, List.nil_append, List.append_nil, List.length_cons, List.length_nil, Nat.reduceAdd, Nat.reduceLT, Nat.reduceSub, if_true, if_false, Nat.zero_add, Nat.add_zero, Nat.sub_zero, Nat.lt_irrefl, Nat.not_lt_zero, Nat.zero_lt_one, Nat.lt_add_one] at hF); (try simp only [List.set_cons_zero, List.set_cons_succ, updH, posOf, lentArr, killF, killO, killV, AV.has, AV.hasL, AV.emb, AV.embL, OB.emb, embB, List.filter_cons, List.filter_nil, List.getElem?_cons_zero, List.getElem?_cons_succ, List.getD_cons_zero, List.getD_cons_succ, List.drop_succ_cons, List.drop_zero, List.drop_nil, List.contains_cons, List.contains_nil, Nat.reduceBEq, Nat.reduceEqDiff, beq_self_eq_true, Bool.or_false, Bool.false_or, Bool.or_true, Bool.true_or, Bool.false_eq_true, Option.map_some, Option.map_none, List.map_cons, List.map_nil, List.cons_append, List.nil_append, List.append_nil, List.length_cons, List.length_nil, Nat.reduceAdd, Nat.reduceLT, Nat.reduceSub, if_true, if_false, Nat.zero_add, Nat.add_zero, Nat.sub_zero, Nat.lt_irrefl, Nat.not_lt_zero, Nat.zero_lt_one, Nat.lt_add_one] at hH); subst hF; subst hH
    refine WE ?_
    rw [← hfs]
    refine WA ?_
    refine wk_of [some 0, some 1, some 2, some 3] (fun _ => [(1, .f (.func 22) [.p 0 0 0, .p 1 0 0]), (4, .p 2 0 0), (5, .p 3 0 0), (9, .c (prog_r v l)), (10, .c (I (l.map Step.row).length)), (11, .c (I (k + 1 : Nat)))]) (fun _ => [.box [.c (prog_r v l)], .box [.c (I (timeK l (k + 1)))], .box (Mach.zero.row.map .c), .box ((afterS (lastS (l.take k)) s).row.map .c)]) (by decide) (ZNL hE) ZCF ZCH (fun _ => ?_)
    exact ⟨n - 1, by omega, k + 1, by omega, rfl, by rw [lastS_succ hs]; rfl⟩
  refine WA ?_
  obtain rfl : k = l.length := by omega
  refine aret_a [some 0, some 1] (timH l v (timeK l l.length)) rfl (KK (t := 71) rfl) rfl (Cells.box rfl) (by simp) (by (try simp only [nm, putL, Nat.reduceAdd, cellsOf, cvOf]) <;> rfl) (by decide) (ZNL (n := 2) rfl) (fun _ => C0 rfl) ZCH ⟨?_, rfl⟩
  rw [List.take_of_length_le (by omega)]; rfl
def timeF (l : List Step) : Int := if progF l = 0 then timeK l l.length else 0
theorem time_a (l : List Step) (v : Value) (hl : l.length ≤ 1000000) (hok : ∀ s ∈ l, s.ok) : ACalls Tryz.prog 7 [.c (prog_r v l)] [] fun u H => u = .t [.c (I (timeF l)), .c (I (progF l))] ∧ H = [] := by
  refine acalls_of (N := 15) Tryz.func7 rfl rfl (by simp) fun E hE => ?_
  refine WA ?_
  refine WR ?_
  refine al_ef rfl (ef_call0 false (fun _ => check_a l v (by omega)) rfl .fn rfl (by decide) (by kernel_rfl) rfl (fun _ => C0 rfl) (by simp)) ?_
  rintro _ _ ⟨_, _, _, ⟨rfl, rfl⟩, hF, hH⟩
  (try simp only [nsl, Nat.reduceAdd, Nat.reduceLT, Nat.reduceSub] at hF); (try simp only [nsl, Nat.reduceAdd, Nat.reduceLT, Nat.reduceSub] at hH); subst hF; subst hH
  refine WE ?_
  refine WA ?_
  refine aw_if rfl (fun hne => ?_) (fun heq => ?_)
  · refine WA ?_
    exact aret_2 [] _ rfl rfl rfl rfl rfl (by decide) (ZNK rfl) (fun _ => .nil) ⟨by rw [timeF, if_neg hne], rfl⟩
  · have h0 : progF l = 0 := by omega
    have hz := progF_zero h0
    refine ZZ ?_
    refine WA ?_
    refine WR ?_
    refine al_ef rfl (ef_call [0, 1] (fun _ => timH l v 0) false (fun _ => runTim_a l v hz.1 hz.2 hok) rfl .fn rfl (by decide) (by kernel_rfl) rfl ZCH (by decide) ZCH (by simp)) ?_
    rintro F1 H1 ⟨_, _, _, _, ⟨rfl, hq⟩, hF, hH⟩
    subst hq
    (try simp only [List.set_cons_zero, List.set_cons_succ, updH, posOf, lentArr, killF, killO, killV, AV.has, AV.hasL, AV.emb, AV.embL, OB.emb, embB, List.filter_cons, List.filter_nil, List.getElem?_cons_zero, List.getElem?_cons_succ, List.getD_cons_zero, List.getD_cons_succ, List.drop_succ_cons, List.drop_zero, List.drop_nil, List.contains_cons, List.contains_nil, Nat.reduceBEq, Nat.reduceEqDiff, beq_self_eq_true, Bool.or_false, Bool.false_or, Bool.or_true, Bool.true_or, Bool.false_eq_true, Option.map_some, Option.map_none, List.map_cons, List.map_nil, List.cons_append, List.nil_append, List.append_nil, List.length_cons, List.length_nil, Nat.reduceAdd, Nat.reduceLT, Nat.reduceSub, if_true, if_false, Nat.zero_add, Nat.add_zero, Nat.sub_zero, Nat.lt_irrefl, Nat.not_lt_zero, Nat.zero_lt_one, Nat.lt_add_one] at hF); (try simp only [List.set_cons_zero, List.set_cons_succ, updH, posOf, lentArr, killF, killO, killV, AV.has, AV.hasL, AV.emb, AV.embL, OB.emb, embB, List.filter_cons, List.filter_nil, List.getElem?_cons_zero, List.getElem?_cons_succ, List.getD_cons_zero, List.getD_cons_succ, List.drop_succ_cons, List.drop_zero, List.drop_nil, List.contains_cons, List.contains_nil, Nat.reduceBEq, Nat.reduceEqDiff, beq_self_eq_true, Bool.or_false, Bool.false_or, Bool.or_true, Bool.true_or, Bool.false_eq_true, Option.map_some, Option.map_none, List.map_cons, List.map_nil, List.cons_append, List.nil_append, List.append_nil, List.length_cons, List.length_nil, Nat.reduceAdd, Nat.reduceLT, Nat.reduceSub, if_true, if_false, Nat.zero_add, Nat.add_zero, Nat.sub_zero, Nat.lt_irrefl, Nat.not_lt_zero, Nat.zero_lt_one, Nat.lt_add_one] at hH); subst hF; subst hH
    refine WE ?_
    refine WA ?_
    exact aret_2 [] _ rfl rfl rfl rfl rfl (by decide) (ZNK rfl) (fun _ => .nil) ⟨by rw [timeF, if_pos h0, h0], rfl⟩
end Go.Proofs.YtdmeohgojdfmoaaGreat
