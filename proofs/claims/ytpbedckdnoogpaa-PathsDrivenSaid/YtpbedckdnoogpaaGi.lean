/- Braking, what is reached; legs divided, and turned round, by value. -/
import Derived.Test.YtpbedckdnoogpaaGh
import Derived.Test.YtpbedckdnoogpaaGa
set_option linter.unusedSimpArgs false
set_option linter.unusedVariables false
namespace Go.Proofs.Ytpbedckdnoogpaa
open Go Go.RowKit
set_option maxRecDepth 100000
theorem leg_eqk {a b : Leg} : a.long = b.long ∧ a.limit = b.limit ↔ a = b := by cases a; cases b; simp
theorem eqL_a (l l' : List Leg) (v v' : Value) (hl : l.length ≤ 1000000000) (hl' : l'.length ≤ 1000000000) : ACalls Try.prog 86 [.c (.r v (l.map Leg.row)), .c (.r v' (l'.map Leg.row))] [] fun u H => ∃ b : Bool, u = .c (B b) ∧ H = [] ∧ (b = true ↔ l = l') := by
  have e1 : (l.map Leg.row).length = l.length := by simp
  have e2 : (l'.map Leg.row).length = l'.length := by simp
  refine acalls_of (N := 26) Try.func86 rfl rfl (by simp) fun E hE => ?_
  refine WA ?_
  refine WA ?_
  refine aw_if rfl (fun hne => ?_) (fun heq => ?_)
  · refine WA ?_
    exact aret_1 [] _ rfl rfl rfl (by decide) (ZNK rfl) (fun _ => .nil) ⟨_, rfl, rfl, by simp; intro e; rw [e] at hne; omega⟩
  refine ZZ ?_
  refine WA ?_
  refine aw_loopw (fun n F H => ∃ k : Nat, n + k = l.length ∧ l.take k = l'.take k ∧ F = [(0, .c (.r v (l.map Leg.row))), (1, .c (.r v' (l'.map Leg.row))), (12, .c (I (l.map Leg.row).length)), (13, .c (I k))] ∧ H = []) ?_ ?_
  · refine wk_of [] (fun _ => [(0, .c (.r v (l.map Leg.row))), (1, .c (.r v' (l'.map Leg.row))), (12, .c (I (l.map Leg.row).length)), (13, .c (I (0 : Nat)))]) (fun _ => _) (by decide) (ZNL hE) ZCF (fun _ => .nil) (fun _ => ?_)
    exact ⟨l.length, 0, by omega, rfl, rfl, rfl⟩
  rintro n F H ⟨k, hk, ht, rfl, rfl⟩
  refine WA ?_
  refine aw_if rfl (fun hlt => ?_) (fun hge => ?_)
  · obtain ⟨s, hs⟩ : ∃ s, l[k]? = some s := ⟨_, List.getElem?_eq_getElem (by omega)⟩
    obtain ⟨s', hs'⟩ : ∃ s', l'[k]? = some s' := ⟨_, List.getElem?_eq_getElem (by omega)⟩
    have hrow : (l.map Leg.row)[k]? = some (Leg.row s) := by rw [List.getElem?_map, hs]; rfl
    have hrow' : (l'.map Leg.row)[k]? = some (Leg.row s') := by rw [List.getElem?_map, hs']; rfl
    refine WA ?_
    refine ZZ ?_
    refine aw_regionT [(0, none), (1, none), (2, none), (3, none), (4, none), (5, none), (6, none), (7, none), (8, none)] hMixed (by kernel_rfl) ?_
    refine WQ ?_
    refine aw_if rfl (fun hn => ?_) (fun he => ?_)
    · refine WA ?_
      refine aret_1 [] _ rfl rfl rfl (by decide) (ZNK rfl) (fun _ => .nil) ⟨_, rfl, rfl, ?_⟩
      simp only [Bool.false_eq_true, false_iff]
      intro e
      subst e
      rw [hs] at hs'
      exact hn (leg_eqk.2 (Option.some.inj hs'))
    · refine ZZ ?_
      refine WA ?_
      refine wk_of [] (fun _ => [(0, .c (.r v (l.map Leg.row))), (1, .c (.r v' (l'.map Leg.row))), (12, .c (I (l.map Leg.row).length)), (13, .c (I (k + 1 : Nat)))]) (fun _ => _) (by decide) (ZNL hE) ZCF (fun _ => .nil) (fun _ => ?_)
      exact ⟨n - 1, by omega, k + 1, by omega, by rw [take_nextk hs, take_nextk hs', ht, leg_eqk.1 (Decidable.not_not.1 he)], rfl, rfl⟩
  refine WA ?_
  refine aret_1 [] _ rfl rfl rfl (by decide) (ZNK rfl) (fun _ => .nil) ⟨_, rfl, rfl, ?_⟩
  rw [List.take_of_length_le (by omega), List.take_of_length_le (by omega)] at ht
  simp [ht]
theorem okLegs (l : List Leg) : OkR 2 (l.map Leg.row) := okR_map (f := Leg.row) (sz := 2) (fun p => ⟨rfl, by simp [CV.one, Value.oneCell']⟩) l
theorem okInts (l : List Int) : OkR 1 (l.map fun z => [I z]) := okR_map (f := fun z => [I z]) (sz := 1) (fun p => ⟨rfl, by simp [CV.one, Value.oneCell']⟩) l
theorem leg_flat (l : List Leg) (K : CV → Prop) : ∀ row ∈ l.map Leg.row, ∀ u ∈ row, u.flat ∨ K u := fun row hr u hu => by
  obtain ⟨p, -, rfl⟩ := List.mem_map.1 hr
  simp only [List.mem_cons, List.not_mem_nil, or_false] at hu
  rcases hu with rfl | rfl <;> exact .inl trivial
theorem int_flat (l : List Int) (K : CV → Prop) : ∀ row ∈ l.map (fun z => [I z]), ∀ u ∈ row, u.flat ∨ K u := fun row hr u hu => by
  obtain ⟨p, -, rfl⟩ := List.mem_map.1 hr
  simp only [List.mem_cons, List.not_mem_nil, or_false] at hu
  rcases hu with rfl; exact .inl trivial
/- ## Braking -/
def brakeF (s ch : Int) : Int := (s * s + 2 * ch - 1) / (2 * ch)
def brakeV (s ch : Int) : Int := if 0 ≤ s ∧ s ≤ 100000 then changeF ch else 1
theorem brakeV_ok {s ch : Int} (h : brakeV s ch = 0) : (0 ≤ s ∧ s ≤ 100000) ∧ 1 ≤ ch ∧ ch ≤ 10000000 := by
  unfold brakeV at h
  split at h
  · rename_i hs
    unfold changeF at h
    split at h
    · exact ⟨hs, by omega⟩
    · omega
  · omega
theorem ceil_alt {x d : Int} (hd : 1 ≤ d) : -((-x) / d) = (x + d - 1) / d := by
  have h1 := Int.mul_ediv_add_emod (x + d - 1) d
  have h2 := Int.emod_nonneg (x + d - 1) (show d ≠ 0 by omega)
  have h3 := Int.emod_lt_of_pos (x + d - 1) (show 0 < d by omega)
  have : (-x) / d = -((x + d - 1) / d) := by
    refine ((Int.ediv_emod_unique (a := -x) (r := d - 1 - (x + d - 1) % d) (show 0 < d by omega)).2 ⟨?_, by omega, by omega⟩).1
    rw [Int.mul_neg]; omega
  omega
theorem brake_a (s ch : Int) : ACalls Try.prog 72 [.c (I s), .c (I ch)] [] fun u H => u = .t [.c (I (if brakeV s ch = 0 then brakeF s ch else 0)), .c (I (brakeV s ch))] ∧ H = [] := by
  refine acalls_of (N := 24) Try.func72 rfl rfl (by simp) fun E hE => ?_
  by_cases hs : 0 ≤ s ∧ s ≤ 100000
  · have hv : brakeV s ch = changeF ch := by rw [brakeV, if_pos hs]
    rw [hv]
    refine WA ?_
    refine WR ?_
    refine al_ef rfl (ef_call0 false (fun _ => outs_a s 0 100000) rfl .fn rfl (by decide) (by kernel_rfl) rfl (fun _ => C0 rfl) (by simp)) ?_
    rintro _ _ ⟨_, _, _, ⟨bb, rfl, rfl, ⟨rfl, hb⟩ | ⟨rfl, hb⟩⟩, hF, hH⟩
    rotate_left
    exact absurd hs (by omega)
    (try simp only [nsl, Nat.reduceAdd, Nat.reduceLT, Nat.reduceSub] at hF); (try simp only [nsl, Nat.reduceAdd, Nat.reduceLT, Nat.reduceSub] at hH); subst hF; subst hH
    refine WE ?_
    refine aw_cond_f rfl ?_
    refine ZZ ?_
    refine WR ?_
    refine al_ef rfl (ef_call0 false (fun _ => change1_a _) rfl .fn rfl (by decide) (by kernel_rfl) rfl (fun _ => C0 rfl) (by simp)) ?_
    rintro _ _ ⟨_, _, _, ⟨rfl, rfl⟩, hF, hH⟩
    (try simp only [nsl, Nat.reduceAdd, Nat.reduceLT, Nat.reduceSub] at hF); (try simp only [nsl, Nat.reduceAdd, Nat.reduceLT, Nat.reduceSub] at hH); subst hF; subst hH
    refine WE ?_
    refine WA ?_
    refine aw_if rfl (fun h0 => ?_) (fun h0 => ?_)
    · refine WA ?_
      exact aret_2 [] _ rfl rfl rfl rfl rfl (by decide) (ZNK rfl) (fun _ => .nil) ⟨by rw [if_neg h0], rfl⟩
    · have hv0 : changeF ch = 0 := by omega
      have hq := sq_b (a := s) (by omega) (by omega)
      obtain ⟨-, hc1, hc2⟩ := brakeV_ok (s := s) (ch := ch) (by rw [hv]; exact hv0)
      refine ZZ ?_
      refine WA ?_
      exact aret_2 [] _ rfl rfl rfl rfl rfl (by decide) (ZNK rfl) (fun _ => .nil) ⟨by rw [hv0, if_pos rfl]; rfl, rfl⟩
  · have hv : brakeV s ch = 1 := by rw [brakeV, if_neg hs]
    rw [hv]
    refine WA ?_
    refine WR ?_
    refine al_ef rfl (ef_call0 false (fun _ => outs_a s 0 100000) rfl .fn rfl (by decide) (by kernel_rfl) rfl (fun _ => C0 rfl) (by simp)) ?_
    rintro _ _ ⟨_, _, _, ⟨bb, rfl, rfl, ⟨rfl, hb⟩ | ⟨rfl, hb⟩⟩, hF, hH⟩
    exact absurd hb hs
    (try simp only [nsl, Nat.reduceAdd, Nat.reduceLT, Nat.reduceSub] at hF); (try simp only [nsl, Nat.reduceAdd, Nat.reduceLT, Nat.reduceSub] at hH); subst hF; subst hH
    refine WE ?_
    refine aw_cond_t rfl ?_
    refine WA ?_
    exact aret_2 [] _ rfl rfl rfl rfl rfl (by decide) (ZNK rfl) (fun _ => .nil) ⟨rfl, rfl⟩
theorem brakeof_a (s ch : Int) (h : brakeV s ch = 0) : ACalls Try.prog 79 [.c (I s), .c (I ch)] [] fun u H => u = .c (I (brakeF s ch)) ∧ H = [] := by
  obtain ⟨hs, hc1, hc2⟩ := brakeV_ok h
  have hq := sq_b (a := s) (by omega) (by omega)
  have hneg : -s * s = -(s * s) := Int.neg_mul s s
  have hce := ceil_alt (x := s * s) (d := 2 * ch) (by omega)
  have hb0 : 0 ≤ (s * s + 2 * ch - 1) / (2 * ch) := Int.ediv_nonneg (by omega) (by omega)
  have hb1 : (s * s + 2 * ch - 1) / (2 * ch) ≤ s * s + 2 * ch - 1 := Int.ediv_le_self _ (by omega)
  refine acalls_of (N := 13) Try.func79 rfl rfl (by simp) fun E hE => ?_
  refine WA ?_
  refine WR ?_
  refine al_ef rfl (ef_call0 false (fun _ => floor_a (s * s) (2 * ch) (by omega) (by omega) (by omega) (by omega)) rfl .fn rfl (by decide) (by kernel_rfl) rfl (fun _ => .cons (.c (congrArg I hneg)) (.cons (.c rfl) .nil)) (by simp)) ?_
  rintro _ _ ⟨_, _, _, ⟨rfl, rfl⟩, hF, hH⟩
  (try simp only [nsl, Nat.reduceAdd, Nat.reduceLT, Nat.reduceSub] at hF); (try simp only [nsl, Nat.reduceAdd, Nat.reduceLT, Nat.reduceSub] at hH); subst hF; subst hH
  refine WE ?_
  exact aret_1 [] _ rfl rfl rfl (by decide) (ZNK rfl) (fun _ => .nil) ⟨by rw [hce]; rfl, rfl⟩
/- ## What is reached -/
def reachV (f : Int) (x : Leg) (ch : Int) : Int := if oneF x ch ≠ 0 then oneF x ch else if 0 ≤ f ∧ f ≤ x.limit then 0 else 1
def reachF (f : Int) (x : Leg) (ch : Int) : Int := min x.limit (rt f (2 * ch * x.long))
theorem reached_a (f : Int) (x : Leg) (ch : Int) : ACalls Try.prog 84 [.c (I f), .a (x.row.map .c), .c (I ch)] [] fun u H => u = .t [.c (I (if reachV f x ch = 0 then reachF f x ch else 0)), .c (I (reachV f x ch))] ∧ H = [] := by
  refine acalls_of (N := 26) Try.func84 rfl rfl (by simp) fun E hE => ?_
  refine WA ?_
  refine WR ?_
  refine al_ef rfl (ef_call0 false (fun _ => one_a x ch) rfl .fn rfl (by decide) (by kernel_rfl) rfl (fun _ => C0 rfl) (by simp)) ?_
  rintro _ _ ⟨_, _, _, ⟨rfl, rfl⟩, hF, hH⟩
  (try simp only [nsl, Nat.reduceAdd, Nat.reduceLT, Nat.reduceSub] at hF); (try simp only [nsl, Nat.reduceAdd, Nat.reduceLT, Nat.reduceSub] at hH); subst hF; subst hH
  refine WE ?_
  refine WA ?_
  refine aw_if rfl (fun h0 => ?_) (fun h0 => ?_)
  · have hv : reachV f x ch = oneF x ch := by rw [reachV, if_pos h0]
    refine WA ?_
    exact aret_2 [] _ rfl rfl rfl rfl rfl (by decide) (ZNK rfl) (fun _ => .nil) ⟨by rw [hv, if_neg h0], rfl⟩
  have h00 : oneF x ch = 0 := by omega
  obtain ⟨hx, hc⟩ := oneF_ok h00
  have hlim := hx.2.2.2
  refine ZZ ?_
  by_cases hf : 0 ≤ f ∧ f ≤ x.limit
  · have hv : reachV f x ch = 0 := by rw [reachV, if_neg h0, if_pos hf]
    refine WR ?_
    refine al_ef rfl (ef_call0 false (fun _ => outs_a f 0 x.limit) rfl .fn rfl (by decide) (by kernel_rfl) rfl (fun _ => C0 rfl) (by simp)) ?_
    rintro _ _ ⟨_, _, _, ⟨bb, rfl, rfl, ⟨rfl, hb⟩ | ⟨rfl, hb⟩⟩, hF, hH⟩
    rotate_left
    exact absurd hf (by omega)
    (try simp only [nsl, Nat.reduceAdd, Nat.reduceLT, Nat.reduceSub] at hF); (try simp only [nsl, Nat.reduceAdd, Nat.reduceLT, Nat.reduceSub] at hH); subst hF; subst hH
    refine WE ?_
    refine aw_cond_f rfl ?_
    refine ZZ ?_
    refine aw_regionT [(0, none), (1, none), (2, none), (3, none), (4, none), (5, some [0, 1]), (6, none), (7, none), (8, none)] hMixed (by kernel_rfl) ?_
    refine WP ?_
    refine at_ef rfl rfl (ef_call0 false (fun _ => reach_a f x ch hf.1 (by omega) hx hc) rfl .fn rfl (by decide) (by kernel_rfl) rfl (fun _ => C0 rfl) (by simp)) ?_
    rintro _ _ ⟨_, _, _, ⟨rfl, rfl⟩, hF, hH⟩
    (try simp only [nsl, Nat.reduceAdd, Nat.reduceLT, Nat.reduceSub] at hF); (try simp only [nsl, Nat.reduceAdd, Nat.reduceLT, Nat.reduceSub] at hH); subst hF; subst hH
    refine ⟨ag_cons (by first | exact ag_rd rfl rfl rfl (ZX (KF (t := 64) (f := 1) rfl rfl)) rfl) (ag_cons (by first | exact ag_rd rfl rfl rfl (ZL (KK (t := 3) rfl)) rfl) (ag_none)), ?_⟩
    refine WQ ?_
    exact aret_2 [] _ rfl rfl rfl rfl rfl (by decide) (ZNK rfl) (fun _ => .nil) ⟨by rw [hv, if_pos rfl]; rfl, rfl⟩
  · have hv : reachV f x ch = 1 := by rw [reachV, if_neg h0, if_neg hf]
    refine WR ?_
    refine al_ef rfl (ef_call0 false (fun _ => outs_a f 0 x.limit) rfl .fn rfl (by decide) (by kernel_rfl) rfl (fun _ => C0 rfl) (by simp)) ?_
    rintro _ _ ⟨_, _, _, ⟨bb, rfl, rfl, ⟨rfl, hb⟩ | ⟨rfl, hb⟩⟩, hF, hH⟩
    exact absurd hb hf
    (try simp only [nsl, Nat.reduceAdd, Nat.reduceLT, Nat.reduceSub] at hF); (try simp only [nsl, Nat.reduceAdd, Nat.reduceLT, Nat.reduceSub] at hH); subst hF; subst hH
    refine WE ?_
    refine aw_cond_t rfl ?_
    refine WA ?_
    exact aret_2 [] _ rfl rfl rfl rfl rfl (by decide) (ZNK rfl) (fun _ => .nil) ⟨by rw [hv]; rfl, rfl⟩
theorem reachedof_a (f : Int) (x : Leg) (ch : Int) (hx : x.good) (hc : 1 ≤ ch ∧ ch ≤ 10000000) (hf : 0 ≤ f ∧ f ≤ x.limit) : ACalls Try.prog 85 [.c (I f), .a (x.row.map .c), .c (I ch)] [] fun u H => u = .c (I (reachF f x ch)) ∧ H = [] := by
  have hlim := hx.2.2.2
  have hs := sq_b (a := f) (by omega) (by omega)
  have hd := dis_b hc hx
  obtain ⟨hx1, hx2, hx3, hx4⟩ := hx
  refine acalls_of (N := 20) Try.func85 rfl rfl (by simp) fun E hE => ?_
  refine WA ?_
  refine ZZ ?_
  refine aw_regionT [(0, none), (1, none), (2, none), (3, none), (4, none), (5, none), (6, none), (7, none), (8, none), (9, none), (10, none), (11, some [0, 1]), (12, none), (13, none)] hMixed (by kernel_rfl) ?_
  refine WP ?_
  refine at_ef rfl rfl (ef_call0 false (fun _ => root2_a (f * f + 2 * ch * x.long) (by omega) (by omega)) rfl .fn rfl (by decide) (by kernel_rfl) rfl (fun _ => C0 rfl) (by simp)) ?_
  rintro _ _ ⟨_, _, _, ⟨rfl, rfl⟩, hF, hH⟩
  (try simp only [nsl, Nat.reduceAdd, Nat.reduceLT, Nat.reduceSub] at hF); (try simp only [nsl, Nat.reduceAdd, Nat.reduceLT, Nat.reduceSub] at hH); subst hF; subst hH
  refine ⟨ag_cons (by first | exact ag_rd rfl rfl rfl (ZX (KF (t := 64) (f := 1) rfl rfl)) rfl) (ag_cons (by first | exact ag_rd rfl rfl rfl (ZL (KK (t := 3) rfl)) rfl) (ag_none)), ?_⟩
  refine WQ ?_
  exact aret_1 [] _ rfl rfl rfl (by decide) (ZNK rfl) (fun _ => .nil) ⟨rfl, rfl⟩
/- ## The other direction -/
theorem back_a (l : List Leg) (cs : List Int) (v w : Value) (hl : l.length ≤ 1000000) (hcl : cs.length ≤ 1000000) : ACalls Try.prog 74 [.c (legs_r v l), .c (ints_r w cs)] [] fun u H =>
    ∃ v' w', u = .t [.c (legs_r v' (if cornersF l cs = 0 then l.reverse else [])), .c (ints_r w' (if cornersF l cs = 0 then cs.reverse else [])), .c (I (cornersF l cs))] ∧ H = [] := by
  have e1 : (l.map Leg.row).length = l.length := by simp
  have e2 : (cs.map fun z => [I z]).length = cs.length := by simp
  refine acalls_of (N := 24) Try.func74 rfl rfl (by simp) fun E hE => ?_
  refine WA ?_
  refine WR ?_
  refine al_ef rfl (ef_call0 false (fun _ => corners1_a l cs v w (by omega) (by omega)) rfl .fn rfl (by decide) (by kernel_rfl) rfl (fun _ => C0 rfl) (by simp)) ?_
  rintro _ _ ⟨_, _, _, ⟨rfl, rfl⟩, hF, hH⟩
  (try simp only [nsl, Nat.reduceAdd, Nat.reduceLT, Nat.reduceSub] at hF); (try simp only [nsl, Nat.reduceAdd, Nat.reduceLT, Nat.reduceSub] at hH); subst hF; subst hH
  refine WE ?_
  refine WA ?_
  refine aw_if rfl (fun h0 => ?_) (fun h0 => ?_)
  · refine WA ?_
    exact aret_of (us := [.c (legs_r (.slice none 0 0) []), .c (ints_r (.slice none 0 0) []), .c (I (cornersF l cs))]) [] (fun _ => .t [.c (legs_r (.slice none 0 0) []), .c (ints_r (.slice none 0 0) []), .c (I (cornersF l cs))]) (fun _ => []) (.tmp rfl (.tmp rfl (.tmp rfl .nil))) (by decide) (ZNK rfl) (fun _ => .tL (C0 rfl)) (fun _ => .nil) (fun _ => ⟨_, _, by rw [if_neg h0, if_neg h0], rfl⟩)
  have h00 : cornersF l cs = 0 := by omega
  refine ZZ ?_
  refine WR ?_
  refine al_ef rfl (ef_call0 true (fun _ => cloneL_a (l.map Leg.row) v (okLegs l) (by omega)) rfl .fn rfl (by decide) (by kernel_rfl) rfl (fun _ => .cons (.c rfl) .nil) (fun _ _ u Hr ⟨c, _, hu, hH⟩ => by rw [hu, hH]; exact ⟨.o, fun o ho => by rw [List.mem_singleton.1 ho]; exact leg_flat _ _⟩)) ?_
  rintro _ _ ⟨_, _, _, ⟨c1, hc1, rfl, rfl⟩, hF, hH⟩
  (try simp only [nsl, Nat.reduceAdd, Nat.reduceLT, Nat.reduceSub] at hF); (try simp only [nsl, Nat.reduceAdd, Nat.reduceLT, Nat.reduceSub] at hH); subst hF; subst hH
  refine WO ?_
  refine al_ef rfl (ef_call0 true (fun _ => cloneI_a (cs.map fun z => [I z]) w (okInts cs) (by omega)) rfl .fn rfl (by decide) (by kernel_rfl) rfl (fun _ => .cons (.c rfl) .nil) (fun _ _ u Hr ⟨c, _, hu, hH⟩ => by rw [hu, hH]; exact ⟨.o, fun o ho => by rw [List.mem_singleton.1 ho]; exact int_flat _ _⟩)) ?_
  rintro _ _ ⟨_, _, _, ⟨c2, hc2, rfl, rfl⟩, hF, hH⟩
  (try simp only [nsl, Nat.reduceAdd, Nat.reduceLT, Nat.reduceSub] at hF); (try simp only [nsl, Nat.reduceAdd, Nat.reduceLT, Nat.reduceSub] at hH); subst hF; subst hH
  refine WE ?_
  refine WR ?_
  refine al_ef rfl (ef_callp [0] (fun _ => [.arr 64 2 c1 (l.map Leg.row)]) false (fun _ => revL_a l c1 (by omega) (by omega)) rfl .fn rfl (by decide) (by kernel_rfl) rfl (fun _ => .cons (.o rfl e1) .nil) (by decide) (fun _ => .arr rfl rfl .nil) (by simp)) ?_
  rintro F1 H1 ⟨_, _, _, _, ⟨rfl, rfl⟩, hF, hH⟩
  rw [killF_nil] at hF
  (try simp only [List.set_cons_zero, List.set_cons_succ, updH, posOf, lentArr, killF, killO, killV, AV.has, AV.hasL, AV.emb, AV.embL, OB.emb, embB, List.filter_cons, List.filter_nil, List.getElem?_cons_zero, List.getElem?_cons_succ, List.getD_cons_zero, List.getD_cons_succ, List.drop_succ_cons, List.drop_zero, List.drop_nil, List.contains_cons, List.contains_nil, Nat.reduceBEq, Nat.reduceEqDiff, beq_self_eq_true, Bool.or_false, Bool.false_or, Bool.or_true, Bool.true_or, Bool.false_eq_true, Option.map_some, Option.map_none, List.map_cons, List.map_nil, List.cons_append, List.nil_append, List.append_nil, List.length_cons, List.length_nil, Nat.reduceAdd, Nat.reduceLT, Nat.reduceSub, if_true, if_false, Nat.zero_add, Nat.add_zero, Nat.sub_zero, Nat.lt_irrefl, Nat.not_lt_zero, Nat.zero_lt_one, Nat.lt_add_one] at hF); (try simp only [List.set_cons_zero, List.set_cons_succ, updH, posOf, lentArr, killF, killO, killV, AV.has, AV.hasL, AV.emb, AV.embL, OB.emb, embB, List.filter_cons, List.filter_nil, List.getElem?_cons_zero, List.getElem?_cons_succ, List.getD_cons_zero, List.getD_cons_succ, List.drop_succ_cons, List.drop_zero, List.drop_nil, List.contains_cons, List.contains_nil, Nat.reduceBEq, Nat.reduceEqDiff, beq_self_eq_true, Bool.or_false, Bool.false_or, Bool.or_true, Bool.true_or, Bool.false_eq_true, Option.map_some, Option.map_none, List.map_cons, List.map_nil, List.cons_append, List.nil_append, List.append_nil, List.length_cons, List.length_nil, Nat.reduceAdd, Nat.reduceLT, Nat.reduceSub, if_true, if_false, Nat.zero_add, Nat.add_zero, Nat.sub_zero, Nat.lt_irrefl, Nat.not_lt_zero, Nat.zero_lt_one, Nat.lt_add_one] at hH); subst hF; subst hH
  refine WE ?_
  refine WR ?_
  refine al_ef rfl (ef_callp [1] (fun _ => [.arr 3 1 c2 (cs.map fun z => [I z])]) false (fun _ => revI_a cs c2 (by omega) (by omega)) rfl .fn rfl (by decide) (by kernel_rfl) rfl (fun _ => .cons (.o rfl e2) .nil) (by decide) (fun _ => .arr rfl rfl .nil) (by simp)) ?_
  rintro F1 H1 ⟨_, _, _, _, ⟨rfl, rfl⟩, hF, hH⟩
  rw [killF_nil] at hF
  (try simp only [List.set_cons_zero, List.set_cons_succ, updH, posOf, lentArr, killF, killO, killV, AV.has, AV.hasL, AV.emb, AV.embL, OB.emb, embB, List.filter_cons, List.filter_nil, List.getElem?_cons_zero, List.getElem?_cons_succ, List.getD_cons_zero, List.getD_cons_succ, List.drop_succ_cons, List.drop_zero, List.drop_nil, List.contains_cons, List.contains_nil, Nat.reduceBEq, Nat.reduceEqDiff, beq_self_eq_true, Bool.or_false, Bool.false_or, Bool.or_true, Bool.true_or, Bool.false_eq_true, Option.map_some, Option.map_none, List.map_cons, List.map_nil, List.cons_append, List.nil_append, List.append_nil, List.length_cons, List.length_nil, Nat.reduceAdd, Nat.reduceLT, Nat.reduceSub, if_true, if_false, Nat.zero_add, Nat.add_zero, Nat.sub_zero, Nat.lt_irrefl, Nat.not_lt_zero, Nat.zero_lt_one, Nat.lt_add_one] at hF); (try simp only [List.set_cons_zero, List.set_cons_succ, updH, posOf, lentArr, killF, killO, killV, AV.has, AV.hasL, AV.emb, AV.embL, OB.emb, embB, List.filter_cons, List.filter_nil, List.getElem?_cons_zero, List.getElem?_cons_succ, List.getD_cons_zero, List.getD_cons_succ, List.drop_succ_cons, List.drop_zero, List.drop_nil, List.contains_cons, List.contains_nil, Nat.reduceBEq, Nat.reduceEqDiff, beq_self_eq_true, Bool.or_false, Bool.false_or, Bool.or_true, Bool.true_or, Bool.false_eq_true, Option.map_some, Option.map_none, List.map_cons, List.map_nil, List.cons_append, List.nil_append, List.append_nil, List.length_cons, List.length_nil, Nat.reduceAdd, Nat.reduceLT, Nat.reduceSub, if_true, if_false, Nat.zero_add, Nat.add_zero, Nat.sub_zero, Nat.lt_irrefl, Nat.not_lt_zero, Nat.zero_lt_one, Nat.lt_add_one] at hH); subst hF; subst hH
  refine WE ?_
  refine WA ?_
  exact aret_of (us := [.o 0 0 (l.map Leg.row).length c1, .o 1 0 (cs.map fun z => [I z]).length c2, .c (I 0)]) [] (fun g => .t [.c (legs_r (g (.o 0 0 (l.map Leg.row).length c1)) l.reverse), .c (ints_r (g (.o 1 0 (cs.map fun z => [I z]).length c2)) cs.reverse), .c (I 0)]) (fun _ => []) (.tmp rfl (.tmp rfl (.tmp rfl .nil))) (by decide) (ZNK rfl)
    (fun _ => .tL (.cons (.frz rfl rfl (by rw [List.drop_zero, List.take_of_length_le (by simp)]) (by simp) rfl) (.cons (.frz rfl rfl (by rw [List.drop_zero, List.take_of_length_le (by simp)]) (by simp) rfl) (.cons (.c rfl) .nil)))) (fun _ => .nil) (fun _ => ⟨_, _, by rw [h00, if_pos rfl, if_pos rfl], rfl⟩)
theorem backof_a (l : List Leg) (cs : List Int) (v w : Value) (hl : l.length ≤ 1000000) (hcl : cs.length ≤ 1000000) : ACalls Try.prog 81 [.c (legs_r v l), .c (ints_r w cs)] [] fun u H =>
    ∃ v' w', u = .t [.c (legs_r v' l.reverse), .c (ints_r w' cs.reverse)] ∧ H = [] := by
  have e1 : (l.map Leg.row).length = l.length := by simp
  have e2 : (cs.map fun z => [I z]).length = cs.length := by simp
  refine acalls_of (N := 18) Try.func81 rfl rfl (by simp) fun E hE => ?_
  refine WA ?_
  refine WR ?_
  refine al_ef rfl (ef_call0 true (fun _ => cloneL_a (l.map Leg.row) v (okLegs l) (by omega)) rfl .fn rfl (by decide) (by kernel_rfl) rfl (fun _ => .cons (.c rfl) .nil) (fun _ _ u Hr ⟨c, _, hu, hH⟩ => by rw [hu, hH]; exact ⟨.o, fun o ho => by rw [List.mem_singleton.1 ho]; exact leg_flat _ _⟩)) ?_
  rintro _ _ ⟨_, _, _, ⟨c1, hc1, rfl, rfl⟩, hF, hH⟩
  (try simp only [nsl, Nat.reduceAdd, Nat.reduceLT, Nat.reduceSub] at hF); (try simp only [nsl, Nat.reduceAdd, Nat.reduceLT, Nat.reduceSub] at hH); subst hF; subst hH
  refine WO ?_
  refine al_ef rfl (ef_call0 true (fun _ => cloneI_a (cs.map fun z => [I z]) w (okInts cs) (by omega)) rfl .fn rfl (by decide) (by kernel_rfl) rfl (fun _ => .cons (.c rfl) .nil) (fun _ _ u Hr ⟨c, _, hu, hH⟩ => by rw [hu, hH]; exact ⟨.o, fun o ho => by rw [List.mem_singleton.1 ho]; exact int_flat _ _⟩)) ?_
  rintro _ _ ⟨_, _, _, ⟨c2, hc2, rfl, rfl⟩, hF, hH⟩
  (try simp only [nsl, Nat.reduceAdd, Nat.reduceLT, Nat.reduceSub] at hF); (try simp only [nsl, Nat.reduceAdd, Nat.reduceLT, Nat.reduceSub] at hH); subst hF; subst hH
  refine WE ?_
  refine WR ?_
  refine al_ef rfl (ef_callp [0] (fun _ => [.arr 64 2 c1 (l.map Leg.row)]) false (fun _ => revL_a l c1 (by omega) (by omega)) rfl .fn rfl (by decide) (by kernel_rfl) rfl (fun _ => .cons (.o rfl e1) .nil) (by decide) (fun _ => .arr rfl rfl .nil) (by simp)) ?_
  rintro F1 H1 ⟨_, _, _, _, ⟨rfl, rfl⟩, hF, hH⟩
  rw [killF_nil] at hF
  (try simp only [List.set_cons_zero, List.set_cons_succ, updH, posOf, lentArr, killF, killO, killV, AV.has, AV.hasL, AV.emb, AV.embL, OB.emb, embB, List.filter_cons, List.filter_nil, List.getElem?_cons_zero, List.getElem?_cons_succ, List.getD_cons_zero, List.getD_cons_succ, List.drop_succ_cons, List.drop_zero, List.drop_nil, List.contains_cons, List.contains_nil, Nat.reduceBEq, Nat.reduceEqDiff, beq_self_eq_true, Bool.or_false, Bool.false_or, Bool.or_true, Bool.true_or, Bool.false_eq_true, Option.map_some, Option.map_none, List.map_cons, List.map_nil, List.cons_append, List.nil_append, List.append_nil, List.length_cons, List.length_nil, Nat.reduceAdd, Nat.reduceLT, Nat.reduceSub, if_true, if_false, Nat.zero_add, Nat.add_zero, Nat.sub_zero, Nat.lt_irrefl, Nat.not_lt_zero, Nat.zero_lt_one, Nat.lt_add_one] at hF); (try simp only [List.set_cons_zero, List.set_cons_succ, updH, posOf, lentArr, killF, killO, killV, AV.has, AV.hasL, AV.emb, AV.embL, OB.emb, embB, List.filter_cons, List.filter_nil, List.getElem?_cons_zero, List.getElem?_cons_succ, List.getD_cons_zero, List.getD_cons_succ, List.drop_succ_cons, List.drop_zero, List.drop_nil, List.contains_cons, List.contains_nil, Nat.reduceBEq, Nat.reduceEqDiff, beq_self_eq_true, Bool.or_false, Bool.false_or, Bool.or_true, Bool.true_or, Bool.false_eq_true, Option.map_some, Option.map_none, List.map_cons, List.map_nil, List.cons_append, List.nil_append, List.append_nil, List.length_cons, List.length_nil, Nat.reduceAdd, Nat.reduceLT, Nat.reduceSub, if_true, if_false, Nat.zero_add, Nat.add_zero, Nat.sub_zero, Nat.lt_irrefl, Nat.not_lt_zero, Nat.zero_lt_one, Nat.lt_add_one] at hH); subst hF; subst hH
  refine WE ?_
  refine WR ?_
  refine al_ef rfl (ef_callp [1] (fun _ => [.arr 3 1 c2 (cs.map fun z => [I z])]) false (fun _ => revI_a cs c2 (by omega) (by omega)) rfl .fn rfl (by decide) (by kernel_rfl) rfl (fun _ => .cons (.o rfl e2) .nil) (by decide) (fun _ => .arr rfl rfl .nil) (by simp)) ?_
  rintro F1 H1 ⟨_, _, _, _, ⟨rfl, rfl⟩, hF, hH⟩
  rw [killF_nil] at hF
  (try simp only [List.set_cons_zero, List.set_cons_succ, updH, posOf, lentArr, killF, killO, killV, AV.has, AV.hasL, AV.emb, AV.embL, OB.emb, embB, List.filter_cons, List.filter_nil, List.getElem?_cons_zero, List.getElem?_cons_succ, List.getD_cons_zero, List.getD_cons_succ, List.drop_succ_cons, List.drop_zero, List.drop_nil, List.contains_cons, List.contains_nil, Nat.reduceBEq, Nat.reduceEqDiff, beq_self_eq_true, Bool.or_false, Bool.false_or, Bool.or_true, Bool.true_or, Bool.false_eq_true, Option.map_some, Option.map_none, List.map_cons, List.map_nil, List.cons_append, List.nil_append, List.append_nil, List.length_cons, List.length_nil, Nat.reduceAdd, Nat.reduceLT, Nat.reduceSub, if_true, if_false, Nat.zero_add, Nat.add_zero, Nat.sub_zero, Nat.lt_irrefl, Nat.not_lt_zero, Nat.zero_lt_one, Nat.lt_add_one] at hF); (try simp only [List.set_cons_zero, List.set_cons_succ, updH, posOf, lentArr, killF, killO, killV, AV.has, AV.hasL, AV.emb, AV.embL, OB.emb, embB, List.filter_cons, List.filter_nil, List.getElem?_cons_zero, List.getElem?_cons_succ, List.getD_cons_zero, List.getD_cons_succ, List.drop_succ_cons, List.drop_zero, List.drop_nil, List.contains_cons, List.contains_nil, Nat.reduceBEq, Nat.reduceEqDiff, beq_self_eq_true, Bool.or_false, Bool.false_or, Bool.or_true, Bool.true_or, Bool.false_eq_true, Option.map_some, Option.map_none, List.map_cons, List.map_nil, List.cons_append, List.nil_append, List.append_nil, List.length_cons, List.length_nil, Nat.reduceAdd, Nat.reduceLT, Nat.reduceSub, if_true, if_false, Nat.zero_add, Nat.add_zero, Nat.sub_zero, Nat.lt_irrefl, Nat.not_lt_zero, Nat.zero_lt_one, Nat.lt_add_one] at hH); subst hF; subst hH
  refine WE ?_
  refine WA ?_
  exact aret_of (us := [.o 0 0 (l.map Leg.row).length c1, .o 1 0 (cs.map fun z => [I z]).length c2]) [] (fun g => .t [.c (legs_r (g (.o 0 0 (l.map Leg.row).length c1)) l.reverse), .c (ints_r (g (.o 1 0 (cs.map fun z => [I z]).length c2)) cs.reverse)]) (fun _ => []) (.tmp rfl (.tmp rfl .nil)) (by decide) (ZNK rfl)
    (fun _ => .tL (.cons (.frz rfl rfl (by rw [List.drop_zero, List.take_of_length_le (by simp)]) (by simp) rfl) (.cons (.frz rfl rfl (by rw [List.drop_zero, List.take_of_length_le (by simp)]) (by simp) rfl) .nil))) (fun _ => .nil) (fun _ => ⟨_, _, rfl, rfl⟩)
end Go.Proofs.Ytpbedckdnoogpaa
