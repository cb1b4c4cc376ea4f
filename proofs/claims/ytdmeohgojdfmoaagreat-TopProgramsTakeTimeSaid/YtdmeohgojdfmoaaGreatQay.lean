/- slices.Clone, Reverse, by value; places of paths; searches of places. -/
import Derived.Test.YtdmeohgojdfmoaaGreatQax
set_option linter.unusedSimpArgs false
set_option linter.unusedVariables false
/- Faults of legs, corners and changes of speed, of the program and of its document, by value. -/
namespace Go.Proofs.YtdmeohgojdfmoaaGreat
open Go Go.RowKit
set_option maxRecDepth 100000
abbrev Leg.row (s : Leg) : List CV := [I s.long, I s.limit]
abbrev legs_r (v : Value) (l : List Leg) : CV := .r v (l.map Leg.row)
theorem legBad_t {x : Leg} (h : ¬ x.good) : legBad x = true := by
  cases hb : legBad x
  · exact absurd (legBad_iff.1 hb) h
  · rfl
theorem legBad_f {x : Leg} (h : x.good) : legBad x = false := legBad_iff.2 h
theorem legfault_a (x : Leg) : ACalls Tryz.prog 98 [.a (x.row.map .c)] [] fun u H => u = .c (I (if legBad x then 1 else 0)) ∧ H = [] := by
  refine acalls_of (N := 11) Tryz.func98 rfl rfl (by simp) fun E hE => ?_
  repeat' (first
    | (with_reducible refine aw_seq ?_) | (with_reducible refine aseq_n ?_) | (with_reducible refine aseq_r ?_) | (with_reducible refine ablk_n ?_) | (with_reducible refine ablk_r ?_) | (with_reducible refine ablk_e ?_) | (with_reducible refine ablk_o rfl ?_) | (with_reducible refine aseq_e ?_) | (with_reducible refine aw_skip ?_) | (with_reducible refine aw_block ?_) | (with_reducible refine aw_ret ?_) | (with_reducible refine aw_exit ?_)
    | refine aw_cond_t rfl ?_ | refine aw_cond_f rfl ?_ | refine aw_if_t rfl (by assumption) ?_ | refine aw_if_f rfl (by assumption) ?_ | refine aw_if rfl (fun _ => ?_) (fun _ => ?_) | refine aw_cond rfl (fun _ => ?_) (fun _ => ?_)
    | (refine aw_region (id := 1) ?_
       refine WO ?_
       refine al_ef rfl (ef_call0 false (fun _ => outs_a _ _ _) rfl .fn rfl (by decide) (by kernel_rfl) rfl (fun _ => C0 rfl) (by simp)) ?_
       rintro _ _ ⟨_, _, _, ⟨bb, rfl, rfl, ⟨rfl, hb⟩ | ⟨rfl, hb⟩⟩, hF, hH⟩
       all_goals ((try simp only [nsl, Nat.reduceAdd, Nat.reduceLT, Nat.reduceSub] at hF); (try simp only [nsl, Nat.reduceAdd, Nat.reduceLT, Nat.reduceSub] at hH); subst hF; subst hH)
       all_goals (refine WO ?_)
       all_goals (first | refine ZS ?_ | (refine G1 rfl ?_; refine al_ef rfl (ef_call0 false (fun _ => outs_a _ _ _) rfl .fn rfl (by decide) (by kernel_rfl) rfl (fun _ => C0 rfl) (by simp)) ?_; rintro _ _ ⟨_, _, _, ⟨bb, rfl, rfl, ⟨rfl, hb⟩ | ⟨rfl, hb⟩⟩, hF, hH⟩; all_goals ((try simp only [nsl, Nat.reduceAdd, Nat.reduceLT, Nat.reduceSub] at hF); (try simp only [nsl, Nat.reduceAdd, Nat.reduceLT, Nat.reduceSub] at hH); subst hF; subst hH)) | skip)
       all_goals (refine WE ?_))
    | (refine aw_region ?_; refine WE ?_))
  all_goals (refine aret_1 [] _ rfl rfl rfl (by decide) (ZNK rfl) (fun _ => .nil) ⟨congrArg (fun z => AV.c (I z)) ?_, rfl⟩)
  all_goals first | (rw [legBad_t (by unfold Leg.good; omega)]; rfl) | (rw [legBad_f (by unfold Leg.good; omega)]; rfl)
theorem any_drop {l : List Leg} {k : Nat} {x : Leg} (h : l[k]? = some x) : (l.drop k).any legBad = (legBad x || (l.drop (k + 1)).any legBad) := by
  rw [drop_consk h, List.any_cons]
theorem legsF_any {l : List Leg} (h1 : ¬ l.length = 0) (h2 : ¬ 2000 < l.length) : legsF l = if l.any legBad then 1 else 0 := by
  unfold legsF; rw [if_neg h1, if_neg h2]
theorem checklegs_a (l : List Leg) (v : Value) : ACalls Tryz.prog 80 [.c (legs_r v l)] [] fun u H => u = .c (I (legsF l)) ∧ H = [] := by
  have e1 : (l.map Leg.row).length = l.length := by simp
  refine acalls_of (N := 24) Tryz.func80 rfl rfl (by simp) fun E hE => ?_
  refine WA ?_
  refine WA ?_
  refine aw_if rfl (fun h0 => ?_) (fun h0 => ?_)
  · refine WA ?_
    exact aret_1 [] _ rfl rfl rfl (by decide) (ZNK rfl) (fun _ => .nil) ⟨by rw [legsF, if_pos (by omega)], rfl⟩
  refine ZZ ?_
  refine WA ?_
  refine aw_if rfl (fun hbig => ?_) (fun hbig => ?_)
  · refine WA ?_
    exact aret_1 [] _ rfl rfl rfl (by decide) (ZNK rfl) (fun _ => .nil) ⟨by rw [legsF, if_neg (by omega), if_pos (by omega)], rfl⟩
  have hF := legsF_any (l := l) (by omega) (by omega)
  refine ZZ ?_
  refine WA ?_
  refine aw_loopw (fun m F H => ∃ (k : Nat), m + k = l.length ∧ (l.drop k).any legBad = l.any legBad ∧ F = [(12, .c (legs_r v l)), (13, .c (I (l.map Leg.row).length)), (14, .c (I k))] ∧ H = []) ?_ ?_
  · refine wk_of [] (fun _ => [(12, .c (legs_r v l)), (13, .c (I (l.map Leg.row).length)), (14, .c (I (0 : Nat)))]) (fun _ => _) (by decide) (ZNL hE) ZCF (fun _ => .nil) (fun _ => ?_)
    exact ⟨l.length, 0, by omega, rfl, rfl, rfl⟩
  rintro m F H ⟨k, hk, hf, rfl, rfl⟩
  refine WA ?_
  refine aw_if rfl (fun hlt => ?_) (fun hge => ?_)
  · obtain ⟨x, hx⟩ : ∃ e, l[k]? = some e := ⟨_, List.getElem?_eq_getElem (by omega)⟩
    have hrow : (l.map Leg.row)[k]? = some x.row := by rw [List.getElem?_map, hx]; rfl
    have hfd := any_drop hx
    refine WA ?_
    refine WR ?_
    refine al_ef rfl (ef_call0 false (fun _ => legfault_a x) rfl .fn rfl (by decide) (by kernel_rfl) rfl (fun _ => C0 rfl) (by simp)) ?_
    rintro _ _ ⟨_, _, _, ⟨rfl, rfl⟩, hF, hH⟩
    (try simp only [nsl, Nat.reduceAdd, Nat.reduceLT, Nat.reduceSub] at hF); (try simp only [nsl, Nat.reduceAdd, Nat.reduceLT, Nat.reduceSub] at hH); subst hF; subst hH
    refine WE ?_
    refine WA ?_
    refine aw_if rfl (fun hne => ?_) (fun heq => ?_)
    · have hb : legBad x = true := by cases h : legBad x <;> simp_all
      refine WA ?_
      exact aret_1 [] _ rfl rfl rfl (by decide) (ZNK rfl) (fun _ => .nil) ⟨by rw [hF, ← hf, hfd, hb]; rfl, rfl⟩
    · have hb : legBad x = false := by cases h : legBad x <;> simp_all
      refine ZZ ?_
      refine WA ?_
      refine wk_of [] (fun _ => [(12, .c (legs_r v l)), (13, .c (I (l.map Leg.row).length)), (14, .c (I (k + 1 : Nat)))]) (fun _ => _) (by decide) (ZNL hE) ZCF (fun _ => .nil) (fun _ => ?_)
      exact ⟨m - 1, by omega, k + 1, by omega, by rw [← hf, hfd, hb, Bool.false_or], rfl, rfl⟩
  refine WA ?_
  exact aret_1 [] _ rfl rfl rfl (by decide) (ZNK rfl) (fun _ => .nil) ⟨by rw [hF, ← hf, List.drop_eq_nil_of_le (by omega)]; rfl, rfl⟩
theorem cornerBad_t {n : Int} (h : n < 0 ∨ 100000 < n) : cornerBad n = true := by
  unfold cornerBad
  cases h1 : decide (0 ≤ n)
  · rfl
  · have h2 : decide (n ≤ 100000) = false := decide_eq_false (by have := of_decide_eq_true h1; omega)
    rw [h2]; rfl
theorem cornerBad_f {n : Int} (h1 : 0 ≤ n) (h2 : n ≤ 100000) : cornerBad n = false := by
  unfold cornerBad; rw [decide_eq_true h1, decide_eq_true h2]; rfl
theorem cbad1_a (n : Int) : ACalls Tryz.prog 81 [.c (I n)] [] fun u H => u = .c (B (cornerBad n)) ∧ H = [] := by
  refine acalls_of (N := 5) Tryz.func81 rfl rfl (by simp) fun E hE => ?_
  repeat' (first
    | (with_reducible refine aw_seq ?_) | (with_reducible refine aseq_n ?_) | (with_reducible refine aseq_r ?_) | (with_reducible refine ablk_n ?_) | (with_reducible refine ablk_r ?_) | (with_reducible refine ablk_e ?_) | (with_reducible refine ablk_o rfl ?_) | (with_reducible refine aseq_e ?_) | (with_reducible refine aw_skip ?_) | (with_reducible refine aw_block ?_) | (with_reducible refine aw_ret ?_) | (with_reducible refine aw_exit ?_)
    | refine aw_cond_t rfl ?_ | refine aw_cond_f rfl ?_ | refine aw_if_t rfl (by assumption) ?_ | refine aw_if_f rfl (by assumption) ?_ | refine aw_if rfl (fun _ => ?_) (fun _ => ?_) | refine aw_cond rfl (fun _ => ?_) (fun _ => ?_)
    | (refine aw_region (id := 1) ?_
       refine WO ?_
       refine al_ef rfl (ef_call0 false (fun _ => outs_a _ _ _) rfl .fn rfl (by decide) (by kernel_rfl) rfl (fun _ => C0 rfl) (by simp)) ?_
       rintro _ _ ⟨_, _, _, ⟨bb, rfl, rfl, ⟨rfl, hb⟩ | ⟨rfl, hb⟩⟩, hF, hH⟩
       all_goals ((try simp only [nsl, Nat.reduceAdd, Nat.reduceLT, Nat.reduceSub] at hF); (try simp only [nsl, Nat.reduceAdd, Nat.reduceLT, Nat.reduceSub] at hH); subst hF; subst hH)
       all_goals (refine WE ?_))
    | (refine aw_region ?_; refine WE ?_))
  all_goals (refine aret_1 [] _ rfl rfl rfl (by decide) (ZNK rfl) (fun _ => .nil) ⟨congrArg (fun z => AV.c (B z)) ?_, rfl⟩)
  all_goals first | (rw [cornerBad_t (by omega)]) | (rw [cornerBad_f (by omega) (by omega)])
theorem corners1_a (l : List Leg) (cs : List Int) (v w : Value) (hl : l.length ≤ 1000000000) (hc : cs.length ≤ 1000000000) : ACalls Tryz.prog 56 [.c (legs_r v l), .c (ints_r w cs)] [] fun u H => u = .c (I (cornersF l cs)) ∧ H = [] := by
  have e1 : (l.map Leg.row).length = l.length := by simp
  have e2 : (cs.map fun z => [I z]).length = cs.length := by simp
  refine acalls_of (N := 19) Tryz.func56 rfl rfl (by simp) fun E hE => ?_
  refine WA ?_
  refine WR ?_
  refine al_ef rfl (ef_call0 false (fun _ => checklegs_a l v) rfl .fn rfl (by decide) (by kernel_rfl) rfl (fun _ => C0 rfl) (by simp)) ?_
  rintro _ _ ⟨_, _, _, ⟨rfl, rfl⟩, hF, hH⟩
  (try simp only [nsl, Nat.reduceAdd, Nat.reduceLT, Nat.reduceSub] at hF); (try simp only [nsl, Nat.reduceAdd, Nat.reduceLT, Nat.reduceSub] at hH); subst hF; subst hH
  refine WE ?_
  refine WA ?_
  refine aw_if rfl (fun hne => ?_) (fun heq => ?_)
  · refine WA ?_
    exact aret_1 [] _ rfl rfl rfl (by decide) (ZNK rfl) (fun _ => .nil) ⟨by rw [cornersF, if_pos hne], rfl⟩
  have h0 : legsF l = 0 := by omega
  have h1 := (legsF_ok h0).1
  refine ZZ ?_
  refine WA ?_
  refine aw_if rfl (fun hne => ?_) (fun hlen => ?_)
  · refine WA ?_
    exact aret_1 [] _ rfl rfl rfl (by decide) (ZNK rfl) (fun _ => .nil) ⟨by rw [cornersF, if_neg (by omega), if_pos (by omega)], rfl⟩
  refine ZZ ?_
  refine WR ?_
  refine al_ef rfl (ef_call0 false (fun _ => contains_a 81 cornerBad (by kernel_rfl) cbad1_a cs w hc) rfl .fn rfl (by decide) (by kernel_rfl) rfl (fun _ => C0 rfl) (by simp)) ?_
  rintro _ _ ⟨_, _, _, ⟨rfl, rfl⟩, hF, hH⟩
  (try simp only [nsl, Nat.reduceAdd, Nat.reduceLT, Nat.reduceSub] at hF); (try simp only [nsl, Nat.reduceAdd, Nat.reduceLT, Nat.reduceSub] at hH); subst hF; subst hH
  refine WE ?_
  refine aw_cond rfl (fun hb => ?_) (fun hb => ?_)
  · refine WA ?_
    exact aret_1 [] _ rfl rfl rfl (by decide) (ZNK rfl) (fun _ => .nil) ⟨by rw [cornersF, if_neg (by omega), if_neg (by omega), if_pos hb], rfl⟩
  · refine ZZ ?_
    refine WA ?_
    exact aret_1 [] _ rfl rfl rfl (by decide) (ZNK rfl) (fun _ => .nil) ⟨by rw [cornersF, if_neg (by omega), if_neg (by omega), if_neg (by simp [hb])], rfl⟩
theorem change1_a (n : Int) : ACalls Tryz.prog 57 [.c (I n)] [] fun u H => u = .c (I (changeF n)) ∧ H = [] := by
  refine acalls_of (N := 5) Tryz.func57 rfl rfl (by simp) fun E hE => ?_
  repeat' (first
    | (with_reducible refine aw_seq ?_) | (with_reducible refine aseq_n ?_) | (with_reducible refine aseq_r ?_) | (with_reducible refine ablk_n ?_) | (with_reducible refine ablk_r ?_) | (with_reducible refine ablk_e ?_) | (with_reducible refine ablk_o rfl ?_) | (with_reducible refine aseq_e ?_) | (with_reducible refine aw_skip ?_) | (with_reducible refine aw_block ?_) | (with_reducible refine aw_ret ?_) | (with_reducible refine aw_exit ?_)
    | refine aw_cond_t rfl ?_ | refine aw_cond_f rfl ?_ | refine aw_if_t rfl (by assumption) ?_ | refine aw_if_f rfl (by assumption) ?_ | refine aw_if rfl (fun _ => ?_) (fun _ => ?_) | refine aw_cond rfl (fun _ => ?_) (fun _ => ?_)
    | (refine aw_region (id := 1) ?_
       refine WO ?_
       refine al_ef rfl (ef_call0 false (fun _ => outs_a _ _ _) rfl .fn rfl (by decide) (by kernel_rfl) rfl (fun _ => C0 rfl) (by simp)) ?_
       rintro _ _ ⟨_, _, _, ⟨bb, rfl, rfl, ⟨rfl, hb⟩ | ⟨rfl, hb⟩⟩, hF, hH⟩
       all_goals ((try simp only [nsl, Nat.reduceAdd, Nat.reduceLT, Nat.reduceSub] at hF); (try simp only [nsl, Nat.reduceAdd, Nat.reduceLT, Nat.reduceSub] at hH); subst hF; subst hH)
       all_goals (refine WE ?_))
    | (refine aw_region ?_; refine WE ?_))
  all_goals (refine aret_1 [] _ rfl rfl rfl (by decide) (ZNK rfl) (fun _ => .nil) ⟨congrArg (fun z => AV.c (I z)) ?_, rfl⟩)
  all_goals (unfold changeF; first | rw [if_pos (by omega)] | rw [if_neg (by omega)])
theorem fault1_a (l : List Leg) (cs : List Int) (ch : Int) (v w : Value) (hl : l.length ≤ 1000000000) (hc : cs.length ≤ 1000000000) : ACalls Tryz.prog 37 [.c (legs_r v l), .c (ints_r w cs), .c (I ch)] [] fun u H => u = .c (I (faultL l cs ch)) ∧ H = [] := by
  refine acalls_of (N := 16) Tryz.func37 rfl rfl (by simp) fun E hE => ?_
  refine WA ?_
  refine WR ?_
  refine al_ef rfl (ef_call0 false (fun _ => corners1_a l cs v w hl hc) rfl .fn rfl (by decide) (by kernel_rfl) rfl (fun _ => C0 rfl) (by simp)) ?_
  rintro _ _ ⟨_, _, _, ⟨rfl, rfl⟩, hF, hH⟩
  (try simp only [nsl, Nat.reduceAdd, Nat.reduceLT, Nat.reduceSub] at hF); (try simp only [nsl, Nat.reduceAdd, Nat.reduceLT, Nat.reduceSub] at hH); subst hF; subst hH
  refine WE ?_
  refine WA ?_
  refine aw_if rfl (fun hne => ?_) (fun heq => ?_)
  · refine WA ?_
    exact aret_1 [] _ rfl rfl rfl (by decide) (ZNK rfl) (fun _ => .nil) ⟨by rw [faultL, if_pos hne], rfl⟩
  refine ZZ ?_
  refine WR ?_
  refine al_ef rfl (ef_call0 false (fun _ => change1_a _) rfl .fn rfl (by decide) (by kernel_rfl) rfl (fun _ => C0 rfl) (by simp)) ?_
  rintro _ _ ⟨_, _, _, ⟨rfl, rfl⟩, hF, hH⟩
  (try simp only [nsl, Nat.reduceAdd, Nat.reduceLT, Nat.reduceSub] at hF); (try simp only [nsl, Nat.reduceAdd, Nat.reduceLT, Nat.reduceSub] at hH); subst hF; subst hH
  refine WE ?_
  exact aret_1 [] _ rfl rfl rfl (by decide) (ZNK rfl) (fun _ => .nil) ⟨by rw [faultL, if_neg heq], rfl⟩
def oneF (x : Leg) (ch : Int) : Int := if legBad x then 1 else changeF ch
end Go.Proofs.YtdmeohgojdfmoaaGreat

/- Whole roots, what a leg lets one reach, peaks and what a leg takes, of the program and of its document, by value. -/
namespace Go.Proofs.YtdmeohgojdfmoaaGreat
open Go Go.RowKit
set_option maxRecDepth 100000
section
variable {P : Program} {N : Nat} {E : Env} {F : Fm} {H : List OB} {o : Oper} {t yt : TypeId} {x y : Operand} {m n z : Int}
theorem rd_subz (ho : o.op = .binOp .sub t x y yt) (hx : ev F x = some (.c (.s (.int .i64 m)))) (hy : ev F y = some (.c (.s (.int .i64 n)))) (hz : m - n = z) (h : -9223372036854775808 ≤ z ∧ z ≤ 9223372036854775807) : Rd P N E o F H (.c (.s (.int .i64 z))) := by
  subst hz; exact rd_subn ho hx hy h
theorem rd_addz (ho : o.op = .binOp .add t x y yt) (hx : ev F x = some (.c (.s (.int .i64 m)))) (hy : ev F y = some (.c (.s (.int .i64 n)))) (hz : m + n = z) (h : -9223372036854775808 ≤ z ∧ z ≤ 9223372036854775807) : Rd P N E o F H (.c (.s (.int .i64 z))) := by
  subst hz; exact rd_addn ho hx hy h
end
theorem prod_b {a b A C : Int} (h0 : 0 ≤ a) (h1 : a ≤ A) (h2 : 0 ≤ b) (h3 : b ≤ C) : 0 ≤ a * b ∧ a * b ≤ A * C := by
  refine ⟨Int.mul_nonneg h0 h2, ?_⟩
  have h4 : a * b ≤ A * b := Int.mul_le_mul_of_nonneg_right h1 h2
  have h5 : A * b ≤ A * C := Int.mul_le_mul_of_nonneg_left h3 (by omega)
  omega
theorem sq_nn (a : Int) : 0 ≤ a * a := by
  by_cases h : 0 ≤ a
  · exact Int.mul_nonneg h h
  · have := Int.mul_nonneg (a := -a) (b := -a) (by omega) (by omega)
    rwa [Int.neg_mul_neg] at this
theorem sq_b {a : Int} (h0 : -100000 ≤ a) (h1 : a ≤ 100000) : 0 ≤ a * a ∧ a * a ≤ 10000000000 := by
  by_cases h : 0 ≤ a
  · have := prod_b h h1 h h1; omega
  · have := prod_b (a := -a) (b := -a) (A := 100000) (C := 100000) (by omega) (by omega) (by omega) (by omega)
    rw [Int.neg_mul_neg] at this; omega
theorem dis_b {ch : Int} {x : Leg} (hc : 1 ≤ ch ∧ ch ≤ 10000000) (hx : x.good) : 2 ≤ 2 * ch * x.long ∧ 2 * ch * x.long ≤ 4000000000000 := by
  obtain ⟨h1, h2, _⟩ := hx
  have := prod_b (a := 2 * ch) (b := x.long) (A := 20000000) (C := 200000) (by omega) (by omega) (by omega) h2
  have h3 : 2 * ch * 1 ≤ 2 * ch * x.long := Int.mul_le_mul_of_nonneg_left h1 (by omega)
  omega
theorem root1_a (n : Int) (h0 : 0 ≤ n) (h1 : n < 4611686018427387904) : ACalls Tryz.prog 59 [.c (I n)] [] fun u H => u = .c (I (rootI n)) ∧ H = [] := by
  refine acalls_of (N := 22) Tryz.func59 rfl rfl (by simp) fun E hE => ?_
  refine WA ?_
  refine WA ?_
  refine aw_loopw (fun m F H => ∃ low high : Int, m = (high - low).toNat ∧ 0 ≤ low ∧ low < high ∧ high ≤ 2147483648 ∧ low * low ≤ n ∧ n < high * high ∧ F = [(0, .c (I n)), (3, .c (I low)), (4, .c (I high))] ∧ H = []) ?_ ?_
  · refine wk_of [] (fun _ => [(0, .c (I n)), (3, .c (I 0)), (4, .c (I 2147483648))]) (fun _ => _) (by decide) (ZNL hE) ZCF (fun _ => .nil) (fun _ => ?_)
    exact ⟨_, 0, 2147483648, rfl, by omega, by omega, by omega, by omega, by omega, rfl, rfl⟩
  rintro m F H ⟨low, high, hm, h2, h3, h4, h5, h6, rfl, rfl⟩
  refine WA ?_
  refine aw_if rfl (fun hlt => ?_) (fun hge => ?_)
  · have hq := prod_b (a := (low + high) / 2) (b := (low + high) / 2) (A := 3000000000) (C := 3000000000) (by omega) (by omega) (by omega) (by omega)
    refine WA ?_
    refine WA ?_
    refine aw_if rfl (fun hle => ?_) (fun hgt => ?_)
    · refine WA ?_
      refine wk_of [] (fun _ => [(0, .c (I n)), (3, .c (I ((low + high) / 2))), (4, .c (I high))]) (fun _ => _) (by decide) (ZNL hE) ZCF (fun _ => .nil) (fun _ => ?_)
      exact ⟨(high - (low + high) / 2).toNat, by omega, (low + high) / 2, high, rfl, by omega, by omega, by omega, hle, h6, rfl, rfl⟩
    · refine WA ?_
      refine wk_of [] (fun _ => [(0, .c (I n)), (3, .c (I low)), (4, .c (I ((low + high) / 2)))]) (fun _ => _) (by decide) (ZNL hE) ZCF (fun _ => .nil) (fun _ => ?_)
      exact ⟨((low + high) / 2 - low).toNat, by omega, low, (low + high) / 2, rfl, by omega, by omega, by omega, h5, by omega, rfl, rfl⟩
  obtain rfl : high = low + 1 := by omega
  refine WA ?_
  exact aret_1 [] _ rfl rfl rfl (by decide) (ZNK rfl) (fun _ => .nil) ⟨by rw [← rootI_uniq h2 h5 h6], rfl⟩
theorem reach_a (f : Int) (x : Leg) (ch : Int) (h0 : 0 ≤ f) (h1 : f ≤ 100000) (hx : x.good) (hc : 1 ≤ ch ∧ ch ≤ 10000000) : ACalls Tryz.prog 58 [.c (I f), .a (x.row.map .c), .c (I ch)] [] fun u H => u = .c (I (rt f (2 * ch * x.long))) ∧ H = [] := by
  have hs := sq_b (a := f) (by omega) h1
  have hd := dis_b hc hx
  obtain ⟨hx1, hx2, hx3, hx4⟩ := hx
  refine acalls_of (N := 17) Tryz.func58 rfl rfl (by simp) fun E hE => ?_
  refine WA ?_
  refine WR ?_
  refine al_ef rfl (ef_call0 false (fun _ => root1_a (f * f + 2 * ch * x.long) (by omega) (by omega)) rfl .fn rfl (by decide) (by kernel_rfl) rfl (fun _ => C0 rfl) (by simp)) ?_
  rintro _ _ ⟨_, _, _, ⟨rfl, rfl⟩, hF, hH⟩
  (try simp only [nsl, Nat.reduceAdd, Nat.reduceLT, Nat.reduceSub] at hF); (try simp only [nsl, Nat.reduceAdd, Nat.reduceLT, Nat.reduceSub] at hH); subst hF; subst hH
  refine WE ?_
  exact aret_1 [] _ rfl rfl rfl (by decide) (ZNK rfl) (fun _ => .nil) ⟨rfl, rfl⟩
def peakF (f t : Int) (x : Leg) (ch : Int) : Int := min x.limit (rootI ((f * f + t * t + 2 * ch * x.long) / 2))
theorem peakF_b {f t : Int} {x : Leg} {ch : Int} (hx : x.good) (hc : 1 ≤ ch ∧ ch ≤ 10000000) : 1 ≤ peakF f t x ch ∧ peakF f t x ch ≤ x.limit := by
  have hd := dis_b hc hx
  have h1 := sq_nn f
  have h2 := sq_nn t
  have := le_rootI (n := (f * f + t * t + 2 * ch * x.long) / 2) (r := 1) (by omega) (by omega)
  unfold peakF
  unfold Leg.good at hx
  omega
theorem peak1_a (f t : Int) (x : Leg) (ch : Int) (h0 : 0 ≤ f ∧ f ≤ 100000) (h1 : 0 ≤ t ∧ t ≤ 100000) (hx : x.good) (hc : 1 ≤ ch ∧ ch ≤ 10000000) : ACalls Tryz.prog 39 [.c (I f), .c (I t), .a (x.row.map .c), .c (I ch)] [] fun u H => u = .c (I (peakF f t x ch)) ∧ H = [] := by
  have hs := sq_b (a := f) (by omega) h0.2
  have ht := sq_b (a := t) (by omega) h1.2
  have hd := dis_b hc hx
  obtain ⟨hx1, hx2, hx3, hx4⟩ := hx
  refine acalls_of (N := 27) Tryz.func39 rfl rfl (by simp) fun E hE => ?_
  refine WA ?_
  refine ZZ ?_
  refine aw_regionT [(0, none), (1, none), (2, none), (3, none), (4, none), (5, none), (6, none), (7, none), (8, none), (9, none), (10, none), (11, none), (12, none), (13, none), (14, none), (15, none), (16, some [0, 1]), (17, none), (18, none)] hMixed (by kernel_rfl) ?_
  refine WP ?_
  refine at_ef rfl rfl (ef_call0 false (fun _ => root1_a ((f * f + t * t + 2 * ch * x.long) / 2) (by omega) (by omega)) rfl .fn rfl (by decide) (by kernel_rfl) rfl (fun _ => C0 rfl) (by simp)) ?_
  rintro _ _ ⟨_, _, _, ⟨rfl, rfl⟩, hF, hH⟩
  (try simp only [nsl, Nat.reduceAdd, Nat.reduceLT, Nat.reduceSub] at hF); (try simp only [nsl, Nat.reduceAdd, Nat.reduceLT, Nat.reduceSub] at hH); subst hF; subst hH
  refine ⟨ag_cons (by first | exact ag_rd rfl rfl rfl (ZX (KF (t := 45) (f := 1) rfl rfl)) rfl) (ag_cons (by first | exact ag_rd rfl rfl rfl (ZL (KK (t := 3) rfl)) rfl) (ag_none)), ?_⟩
  refine WQ ?_
  exact aret_1 [] _ rfl rfl rfl (by decide) (ZNK rfl) (fun _ => .nil) ⟨rfl, rfl⟩
def numF (f t : Int) (x : Leg) (ch : Int) : Int := 1000000 * ((peakF f t x ch - f) * (peakF f t x ch - f) + (peakF f t x ch - t) * (peakF f t x ch - t) + 2 * ch * x.long)
def denF (f t : Int) (x : Leg) (ch : Int) : Int := 2 * ch * peakF f t x ch
theorem taken_a (f t : Int) (x : Leg) (ch : Int) (h0 : 0 ≤ f ∧ f ≤ 100000) (h1 : 0 ≤ t ∧ t ≤ 100000) (hx : x.good) (hc : 1 ≤ ch ∧ ch ≤ 10000000) : ACalls Tryz.prog 44 [.c (I f), .c (I t), .a (x.row.map .c), .c (I ch)] [] fun u H => u = .t [.c (I (numF f t x ch)), .c (I (denF f t x ch))] ∧ H = [] := by
  have hd := dis_b hc hx
  have hp := peakF_b (f := f) (t := t) hx hc
  have hx' := hx
  obtain ⟨hx1, hx2, hx3, hx4⟩ := hx'
  have hs := sq_b (a := peakF f t x ch - f) (by omega) (by omega)
  have ht := sq_b (a := peakF f t x ch - t) (by omega) (by omega)
  have hpb := prod_b (a := 2 * ch) (b := peakF f t x ch) (A := 20000000) (C := 100000) (by omega) (by omega) (by omega) (by omega)
  refine acalls_of (N := 42) Tryz.func44 rfl rfl (by simp) fun E hE => ?_
  refine WA ?_
  refine WR ?_
  refine al_ef rfl (ef_call0 false (fun _ => peak1_a f t x ch h0 h1 hx hc) rfl .fn rfl (by decide) (by kernel_rfl) rfl (fun _ => C0 rfl) (by simp)) ?_
  rintro _ _ ⟨_, _, _, ⟨rfl, rfl⟩, hF, hH⟩
  (try simp only [nsl, Nat.reduceAdd, Nat.reduceLT, Nat.reduceSub] at hF); (try simp only [nsl, Nat.reduceAdd, Nat.reduceLT, Nat.reduceSub] at hH); subst hF; subst hH
  refine WE ?_
  refine WA ?_
  exact aret_2 [] _ rfl rfl rfl rfl rfl (by decide) (ZNK rfl) (fun _ => .nil) ⟨rfl, rfl⟩
end Go.Proofs.YtdmeohgojdfmoaaGreat

/- slices.Clone, Reverse, by value; places of paths; searches of places. -/
namespace Go.Proofs.YtdmeohgojdfmoaaGreat
open Go Go.RowKit
set_option maxRecDepth 100000
theorem okR_map {α : Type} {f : α → List CV} {sz : Nat} (h : ∀ x, (f x).length = sz ∧ ∀ u ∈ f x, u.one = true) (l : List α) : OkR sz (l.map f) := fun row hr => by
  obtain ⟨x, -, rfl⟩ := List.mem_map.1 hr
  exact h x
/-- The first k and the last k of a list have changed their places. -/
def SwK {α : Type} (l : List α) (k : Nat) (l' : List α) : Prop := l'.length = l.length ∧ ∀ m, m < l.length → l'[m]? = if m < k ∨ l.length - 1 - m < k then l[l.length - 1 - m]? else l[m]?
theorem SwK.zero {α : Type} (l : List α) : SwK l 0 l := ⟨rfl, fun m hm => by rw [if_neg (by omega)]⟩
theorem SwK.next {α : Type} {l l' : List α} {k j : Nat} {x y : α} (h : SwK l k l') (hj : k + j + 1 = l.length) (hkj : k < j) (hx : l'[k]? = some x) (hy : l'[j]? = some y) : SwK l (k + 1) ((l'.set k y).set j x) := by
  obtain ⟨h1, h2⟩ := h
  have ek := h2 k (by omega)
  have ej := h2 j (by omega)
  rw [if_neg (by omega), hx] at ek
  rw [if_neg (by omega), hy] at ej
  refine ⟨by simp [h1], fun m hm => ?_⟩
  rw [List.getElem?_set, List.getElem?_set]
  by_cases hmj : j = m
  · subst hmj
    rw [if_pos rfl, if_pos (by simp; omega), if_pos (by omega), show l.length - 1 - j = k from by omega, ← ek]
  · rw [if_neg hmj]
    by_cases hmk : k = m
    · subst hmk
      rw [if_pos rfl, if_pos (by omega), if_pos (by omega), show l.length - 1 - k = j from by omega, ← ej]
    · rw [if_neg hmk, h2 m hm]
      by_cases hc : m < k ∨ l.length - 1 - m < k
      · rw [if_pos hc, if_pos (by omega)]
      · rw [if_neg hc, if_neg (by omega)]
theorem SwK.fin {α : Type} {l l' : List α} {k : Nat} (h : SwK l k l') (hkj : l.length ≤ 2 * k + 1) : l' = l.reverse := by
  obtain ⟨h1, h2⟩ := h
  refine List.ext_getElem? fun m => ?_
  rcases Nat.lt_or_ge m l.length with hm | hm
  · rw [List.getElem?_reverse hm, h2 m hm]
    by_cases hc : m < k ∨ l.length - 1 - m < k
    · rw [if_pos hc]
    · rw [if_neg hc, show l.length - 1 - m = m from by omega]
  · rw [List.getElem?_eq_none (by omega), List.getElem?_eq_none (by simp; omega)]
end Go.Proofs.YtdmeohgojdfmoaaGreat
