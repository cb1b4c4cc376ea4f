/- The logic over values: an array that was lent may give way to one that is new. -/
import Derived.Test.YthanangkmjjbaaaGreatDoorQao
import Derived.Test.YthanangkmjjbaaaGreatDoorRows
import Derived.ProofKit
import Derived.ReadAgain
import Derived.ChangeSlices
import Derived.ChangeStays
import Derived.JoinedOf
import Derived.Test.YthanangkmjjbaaaGreatDoorCards
import Derived.Test.YthanangkmjjbaaaGreatDoorTie
import Derived.Lay
import Derived.SevenTiedAt
import Derived.LaidMore
import Derived.Stop.Joined
import Derived.Test.YthanangkmjjbaaaGreatDoorQal
set_option linter.unusedSimpArgs false
set_option linter.unusedVariables false
/- The stream of raw numbers, in the logic over values: each of its functions gives some value within its range and moves its counter on. -/
namespace Go.Proofs.YthanangkmjjbaaaGreatDoor
open Go Go.RowKit
set_option maxRecDepth 100000
abbrev I (n : Int) : CV := .s (.int .i64 n)
abbrev B (b : Bool) : CV := .s (.bool b)
def in64 (n : Int) : Prop := -9223372036854775808 ≤ n ∧ n ≤ 9223372036854775807
def belowF (x n : Int) : Int := if n < 1 then 0 else if Int.tmod x n < 0 then wrap64 (Int.tmod x n + n) else Int.tmod x n
theorem belowF_range (x n : Int) (hn : in64 n) : 0 ≤ belowF x n ∧ (1 ≤ n → belowF x n < n) := by
  unfold belowF
  by_cases h : n < 1
  · rw [if_pos h]; omega
  · rw [if_neg h]
    have hl : Int.tmod x n < n := Int.tmod_lt_of_pos x (by omega)
    have hg : -n < Int.tmod x n := Int.lt_tmod_of_pos x (by omega)
    unfold in64 at hn
    split
    · rw [IntWalk.wrap64_in _ (by constructor <;> omega)]; omega
    · omega
theorem below_a (x n : Int) : ACalls Tryz.prog 72 [.c (I x), .c (I n)] [] fun u H => u = .c (I (belowF x n)) ∧ H = [] := by
  refine acalls_of (N := 16) Tryz.func72 rfl rfl (by simp) fun E hE => ?_
  repeat' (first
    | (with_reducible refine aw_seq ?_) | (with_reducible refine aseq_n ?_) | (with_reducible refine aseq_r ?_) | (with_reducible refine ablk_n ?_) | (with_reducible refine ablk_r ?_) | (with_reducible refine ablk_e ?_) | (with_reducible refine ablk_o rfl ?_) | (with_reducible refine aseq_e ?_) | (with_reducible refine aw_skip ?_) | (with_reducible refine aw_block ?_) | (with_reducible refine aw_ret ?_) | (with_reducible refine aw_exit ?_)
    | refine aw_cond_t rfl ?_ | refine aw_cond_f rfl ?_ | refine aw_if_t rfl (by assumption) ?_ | refine aw_if_f rfl (by assumption) ?_ | refine aw_if rfl (fun _ => ?_) (fun _ => ?_) | refine aw_cond rfl (fun _ => ?_) (fun _ => ?_)
    | (refine aw_region ?_; refine WE ?_))
  all_goals (refine aret_1 [] _ rfl rfl rfl (by decide) (ZNK rfl) (fun _ => .nil) ?_)
  all_goals (refine ⟨congrArg (fun z => AV.c (I z)) ?_, rfl⟩; unfold belowF; simp [*]; try omega)

/-- The stream: its numbers, its counter. -/
abbrev strm (v : Value) (zs : List Int) (a : Int) : OB := .box [.c (.r v (zs.map fun z => [I z])), .c (I a)]
theorem strm_flat {K : CV → Prop} {v : Value} {zs : List Int} {a : Int} (h : K (.r v (zs.map fun z => [I z]))) : ∀ o ∈ [strm v zs a], FlatO K o := fun o ho => by
  rw [List.mem_singleton.1 ho]
  intro x hx
  simp only [List.mem_cons, List.not_mem_nil, or_false] at hx
  rcases hx with rfl | rfl
  · exact .c (.inr h)
  · exact .c (.inl trivial)
structure StrOk (zs : List Int) : Prop where
  ok : ∀ z ∈ zs, in64 z
  len : zs.length ≤ 9223372036854775807

theorem next_a (n : Int) (v : Value) (zs : List Int) (a : Int) (hs : StrOk zs) (h0 : 0 ≤ a) (h1 : a ≤ 1000000000) (hn : in64 n) :
    ACalls Tryz.prog 27 [.p 0 0 0, .c (I n)] [strm v zs a] fun u H => ∃ r : Int, u = .c (I r) ∧ H = [strm v zs (a + 1)] ∧ 0 ≤ r ∧ (1 ≤ n → r < n) := by
  refine acalls_of (N := 64) Tryz.func27 rfl rfl (by simp) fun E hE => ?_
  unfold in64 at hn
  have hl := hs.len
  by_cases he : zs.length = 0
  · have h00 : zs = [] := List.eq_nil_of_length_eq_zero he
    subst h00
    repeat' (first
      | (with_reducible refine aw_seq ?_) | (with_reducible refine aseq_n ?_) | (with_reducible refine aseq_r ?_) | (with_reducible refine ablk_n ?_) | (with_reducible refine ablk_r ?_) | (with_reducible refine ablk_e ?_) | (with_reducible refine ablk_o rfl ?_) | (with_reducible refine aseq_e ?_) | (with_reducible refine aw_skip ?_) | (with_reducible refine aw_block ?_) | (with_reducible refine aw_ret ?_) | (with_reducible refine aw_exit ?_)
      | refine aw_cond_t rfl ?_ | refine aw_cond_f rfl ?_ | refine aw_if_t rfl (by assumption) ?_ | refine aw_if_f rfl (by assumption) ?_ | refine aw_if rfl (fun _ => ?_) (fun _ => ?_) | refine aw_cond rfl (fun _ => ?_) (fun _ => ?_)
      | (refine aw_region (id := 3) ?_
         refine WO ?_
         refine al_ef rfl (ef_call0 false (fun _ => below_a _ _) rfl .fn rfl (by decide) (by kernel_rfl) rfl (fun _g => .cons (.c rfl) (.cons (.c rfl) .nil)) (by simp)) ?_
         rintro _ _ ⟨_, _, _, ⟨rfl, rfl⟩, rfl, rfl⟩
         refine WE ?_)
      | (refine aw_regionT (id := 4) [(0, none), (1, none), (2, none), (3, none), (4, none), (5, none), (6, none), (7, none), (8, none), (9, none), (10, none), (11, none)] hMixed (by kernel_rfl) ?_
         refine WQ ?_)
      | (refine aw_regionT (id := 5) [(0, none), (1, none), (2, none), (3, none), (4, none), (5, none), (6, none), (7, none), (8, none), (9, none), (10, none), (11, none)] hMixed (by kernel_rfl) ?_
         refine WQ ?_)
      | (refine aw_region ?_; refine WE ?_))
    all_goals (refine aret_1 [some 0] _ rfl rfl rfl (by decide) (ZNK rfl) ZCH ?_)
    all_goals exact ⟨_, rfl, rfl, belowF_range _ n hn⟩
  · have hp : 0 < zs.length := by omega
    refine WA ?_
    refine WA ?_
    refine WA ?_
    refine aw_if_f rfl (by simpa using he) ?_
    have e1 : (zs.map fun z => [I z]).length = zs.length := by simp
    have hq : ((zs.map fun z => [I z]).length : Int) = zs.length := by rw [e1]
    have hmod : 0 ≤ a % (zs.length : Int) := Int.emod_nonneg _ (by omega)
    have hmod2 : a % (zs.length : Int) < zs.length := Int.emod_lt_of_pos _ (by omega)
    refine ZZ ?_
    refine aw_regionT [(0, none), (1, none), (2, none), (3, none), (4, none), (5, none), (6, none), (7, none), (8, none), (9, none), (10, none), (11, none)] hMixed (by kernel_rfl) ?_
    refine WQ ?_
    refine ZZ ?_
    refine aw_regionT [(0, none), (1, none), (2, none), (3, none), (4, none), (5, none), (6, none), (7, none), (8, none), (9, none), (10, none), (11, none)] hMixed (by kernel_rfl) ?_
    refine WQ ?_
    obtain ⟨i, hi⟩ : ∃ i : Nat, a % (zs.length : Int) = i := ⟨(a % (zs.length : Int)).toNat, by omega⟩
    have hk : i < zs.length := by omega
    obtain ⟨z, hz0⟩ : ∃ z, zs[i]? = some z := ⟨_, List.getElem?_eq_getElem hk⟩
    have hrow : (zs.map fun z => [I z])[i]? = some [I z] := by rw [List.getElem?_map, hz0]; rfl
    refine ZR ?_
    iterate 5 refine WX1 ?_
    refine ZA (rd_indexq rfl (KE (t := 22) rfl) rfl rfl (i := i) (by rw [e1, show a + 1 - 1 = a from by omega]; exact hi) hrow rfl) ?_
    refine WO ?_
    refine al_ef rfl (ef_call0 false (fun _ => below_a _ _) rfl .fn rfl (by decide) (by kernel_rfl) rfl (fun _g => .cons (.c rfl) (.cons (.c rfl) .nil)) (by simp)) ?_
    rintro _ _ ⟨_, _, _, ⟨rfl, rfl⟩, rfl, rfl⟩
    refine WO ?_
    refine al_ef rfl (ef_call0 false (fun _ => below_a _ _) rfl .fn rfl (by decide) (by kernel_rfl) rfl (fun _g => .cons (.c rfl) (.cons (.c rfl) .nil)) (by simp)) ?_
    rintro _ _ ⟨_, _, _, ⟨rfl, rfl⟩, rfl, rfl⟩
    refine WE ?_
    all_goals (refine aret_1 [some 0] _ rfl rfl rfl (by decide) (ZNK rfl) ZCH ?_)
    all_goals exact ⟨_, rfl, rfl, belowF_range _ n hn⟩
theorem flip_a (n : Int) (v : Value) (zs : List Int) (a : Int) (hs : StrOk zs) (h0 : 0 ≤ a) (h1 : a ≤ 1000000000) (hn : in64 n) :
    ACalls Tryz.prog 42 [.p 0 0 0, .c (I n)] [strm v zs a] fun u H => ∃ b : Bool, u = .c (B b) ∧ H = [strm v zs (a + 1)] := by
  unfold in64 at hn
  refine acalls_of (N := 9) Tryz.func42 rfl rfl (by simp) fun E hE => ?_
  repeat' (first
    | (with_reducible refine aw_seq ?_) | (with_reducible refine aseq_n ?_) | (with_reducible refine aseq_r ?_) | (with_reducible refine ablk_n ?_) | (with_reducible refine ablk_r ?_) | (with_reducible refine ablk_e ?_) | (with_reducible refine ablk_o rfl ?_) | (with_reducible refine aseq_e ?_) | (with_reducible refine aw_skip ?_) | (with_reducible refine aw_block ?_) | (with_reducible refine aw_ret ?_) | (with_reducible refine aw_exit ?_)
    | refine aw_cond_t rfl ?_ | refine aw_cond_f rfl ?_ | refine aw_if_t rfl (by assumption) ?_ | refine aw_if_f rfl (by assumption) ?_ | refine aw_if rfl (fun _ => ?_) (fun _ => ?_) | refine aw_cond rfl (fun _ => ?_) (fun _ => ?_)
    | (refine aw_region (id := 1) ?_
       refine WO ?_
       refine al_ef rfl (ef_callm false (fun _ => next_a _ _ _ _ hs (by omega) (by omega) (by simp only [in64]; omega)) rfl .fn rfl (by decide) (by kernel_rfl) rfl rfl (fun _g => .cons (.p rfl) (.cons (.c rfl) .nil)) (fun _g => .cons (.c rfl) (.cons (.c rfl) .nil)) (by simp)) ?_
       rintro F1 H1 ⟨_, _, _, _, ⟨r, rfl, hq, hr1, hr2⟩, hF, hH⟩
       injection hq with hq1 hq2; subst hq1; subst hq2
       (try simp only [nsl, Nat.reduceAdd, Nat.reduceLT, Nat.reduceSub] at hF); (try simp only [nsl, Nat.reduceAdd, Nat.reduceLT, Nat.reduceSub] at hH); subst hF; subst hH
       refine WE ?_)
    | (refine aw_region ?_; refine WE ?_))
  all_goals (refine aret_1 [some 0] _ rfl rfl rfl (by decide) (ZNK rfl) ZCH ?_)
  all_goals exact ⟨_, rfl, rfl⟩
theorem range_a (lo hi : Int) (v : Value) (zs : List Int) (a : Int) (hs : StrOk zs) (h0 : 0 ≤ a) (h1 : a ≤ 1000000000) (h2 : -4000000000000000000 ≤ lo) (h3 : lo ≤ 4000000000000000000) (h4 : -4000000000000000000 ≤ hi) (h5 : hi ≤ 4000000000000000000) :
    ACalls Tryz.prog 11 [.p 0 0 0, .c (I lo), .c (I hi)] [strm v zs a] fun u H => ∃ r a', u = .c (I r) ∧ H = [strm v zs a'] ∧ a ≤ a' ∧ a' ≤ a + 1 ∧ lo ≤ r ∧ (lo ≤ hi → r ≤ hi) ∧ (hi < lo → r = lo) := by
  refine acalls_of (N := 19) Tryz.func11 rfl rfl (by simp) fun E hE => ?_
  repeat' (first
    | (with_reducible refine aw_seq ?_) | (with_reducible refine aseq_n ?_) | (with_reducible refine aseq_r ?_) | (with_reducible refine ablk_n ?_) | (with_reducible refine ablk_r ?_) | (with_reducible refine ablk_e ?_) | (with_reducible refine ablk_o rfl ?_) | (with_reducible refine aseq_e ?_) | (with_reducible refine aw_skip ?_) | (with_reducible refine aw_block ?_) | (with_reducible refine aw_ret ?_) | (with_reducible refine aw_exit ?_)
    | refine aw_cond_t rfl ?_ | refine aw_cond_f rfl ?_ | refine aw_if_t rfl (by assumption) ?_ | refine aw_if_f rfl (by assumption) ?_ | refine aw_if rfl (fun _ => ?_) (fun _ => ?_) | refine aw_cond rfl (fun _ => ?_) (fun _ => ?_)
    | (refine aw_region (id := 3) ?_
       refine WO ?_
       refine al_ef rfl (ef_callm false (fun _ => next_a _ _ _ _ hs (by omega) (by omega) (by simp only [in64]; omega)) rfl .fn rfl (by decide) (by kernel_rfl) rfl rfl (fun _g => .cons (.p rfl) (.cons (.c rfl) .nil)) (fun _g => .cons (.c rfl) (.cons (.c rfl) .nil)) (by simp)) ?_
       rintro F1 H1 ⟨_, _, _, _, ⟨r, rfl, hq, hr1, hr2⟩, hF, hH⟩
       injection hq with hq1 hq2; subst hq1; subst hq2
       (try simp only [nsl, Nat.reduceAdd, Nat.reduceLT, Nat.reduceSub] at hF); (try simp only [nsl, Nat.reduceAdd, Nat.reduceLT, Nat.reduceSub] at hH); subst hF; subst hH
       refine WE ?_)
    | (refine aw_region ?_; refine WE ?_))
  all_goals (refine aret_1 [some 0] _ rfl rfl rfl (by decide) (ZNK rfl) ZCH ?_)
  all_goals exact ⟨_, _, rfl, rfl, by omega, by omega, by omega, by omega, by omega⟩
theorem pick_a (vals : List Int) (q v : Value) (zs : List Int) (a : Int) (hs : StrOk zs) (h0 : 0 ≤ a) (h1 : a ≤ 1000000000) (hv : vals ≠ []) (hl : vals.length ≤ 1000000) :
    ACalls Tryz.prog 41 [.p 0 0 0, .c (.r q (vals.map fun z => [I z]))] [strm v zs a] fun u H => ∃ r, u = .c (I r) ∧ H = [strm v zs (a + 1)] ∧ r ∈ vals := by
  have hp : 0 < vals.length := List.length_pos_iff.2 hv
  have e1 : (vals.map fun z => [I z]).length = vals.length := by simp
  refine acalls_of (N := 12) Tryz.func41 rfl rfl (by simp) fun E hE => ?_
  refine WA ?_
  refine WR ?_
  refine al_ef rfl (ef_callm false (fun _ => next_a _ _ _ _ hs (by omega) (by omega) (by simp only [in64]; omega)) rfl .fn rfl (by decide) (by kernel_rfl) rfl rfl (fun _g => .cons (.p rfl) (.cons (.c rfl) .nil)) (fun _g => .cons (.c rfl) (.cons (.c rfl) .nil)) (by simp)) ?_
  rintro F1 H1 ⟨_, _, _, _, ⟨r, rfl, hq, hr1, hr2⟩, hF, hH⟩
  injection hq with hq1 hq2; subst hq1; subst hq2
  (try simp only [nsl, Nat.reduceAdd, Nat.reduceLT, Nat.reduceSub] at hF); (try simp only [nsl, Nat.reduceAdd, Nat.reduceLT, Nat.reduceSub] at hH); subst hF; subst hH
  obtain ⟨i, rfl⟩ : ∃ i : Nat, r = i := ⟨r.toNat, by omega⟩
  have hk : i < vals.length := by have := hr2 (by rw [e1]; omega); rw [e1] at this; omega
  obtain ⟨z, hz0⟩ : ∃ z, vals[i]? = some z := ⟨_, List.getElem?_eq_getElem hk⟩
  have hrow : (vals.map fun z => [I z])[i]? = some [I z] := by rw [List.getElem?_map, hz0]; rfl
  refine ZA (rd_indexq rfl (KE (t := 22) rfl) rfl rfl (i := i) rfl hrow rfl) ?_
  refine WE ?_
  refine aret_1 [some 0] _ rfl rfl rfl (by decide) (ZNK rfl) ZCH ?_
  exact ⟨_, rfl, rfl, List.mem_of_getElem? hz0⟩
theorem odd_a (lo hi : Int) (v : Value) (zs : List Int) (a : Int) (hs : StrOk zs) (h0 : 0 ≤ a) (h1 : a ≤ 900000000) (h2 : -4000000000000000000 ≤ lo) (h3 : lo ≤ 4000000000000000000) (h4 : -4000000000000000000 ≤ hi) (h5 : hi ≤ 4000000000000000000) :
    ACalls Tryz.prog 43 [.p 0 0 0, .c (I lo), .c (I hi)] [strm v zs a] fun u H => ∃ r a', u = .c (I r) ∧ H = [strm v zs a'] ∧ a ≤ a' ∧ a' ≤ a + 2 ∧ in64 r := by
  refine acalls_of (N := 22) Tryz.func43 rfl rfl (by simp) fun E hE => ?_
  repeat' (first
    | (with_reducible refine aw_seq ?_) | (with_reducible refine aseq_n ?_) | (with_reducible refine aseq_r ?_) | (with_reducible refine ablk_n ?_) | (with_reducible refine ablk_r ?_) | (with_reducible refine ablk_e ?_) | (with_reducible refine ablk_o rfl ?_) | (with_reducible refine aseq_e ?_) | (with_reducible refine aw_skip ?_) | (with_reducible refine aw_block ?_) | (with_reducible refine aw_ret ?_) | (with_reducible refine aw_exit ?_)
    | refine aw_cond_t rfl ?_ | refine aw_cond_f rfl ?_ | refine aw_if_t rfl (by assumption) ?_ | refine aw_if_f rfl (by assumption) ?_ | refine aw_if rfl (fun _ => ?_) (fun _ => ?_) | refine aw_cond rfl (fun _ => ?_) (fun _ => ?_)
    | (refine aw_region (id := 1) ?_
       refine WO ?_
       refine al_ef rfl (ef_callm false (fun _ => flip_a 12 _ _ _ hs (by omega) (by omega) (by simp only [in64]; omega)) rfl .fn rfl (by decide) (by kernel_rfl) rfl rfl (fun _g => .cons (.p rfl) (.cons (.c rfl) .nil)) (fun _g => .cons (.c rfl) (.cons (.c rfl) .nil)) (by simp)) ?_
       rintro F1 H1 ⟨_, _, _, _, ⟨bb, rfl, hq⟩, hF, hH⟩
       injection hq with hq1 hq2; subst hq1; subst hq2
       (try simp only [nsl, Nat.reduceAdd, Nat.reduceLT, Nat.reduceSub] at hF); (try simp only [nsl, Nat.reduceAdd, Nat.reduceLT, Nat.reduceSub] at hH); subst hF; subst hH
       refine WE ?_)
    | (refine aw_region (id := 2) ?_
       refine WO ?_
       refine al_ef rfl (ef_callm true (fun _ => pick_a [lo - 1, hi + 1, lo, hi, -1099511627776, 1099511627776] _ _ _ _ hs (by omega) (by omega) (by simp) (by simp)) rfl .fn rfl (by decide) (by kernel_rfl) rfl rfl (fun _g => .cons (.p rfl) (.cons (.frz rfl rfl rfl rfl rfl) .nil)) (fun _g => .cons (.c rfl) (.cons (.c rfl) .nil)) (fun _ _ _ _ ⟨_, hu, hH, _⟩ => by rw [hu, hH]; exact ⟨.c (.inl trivial), strm_flat (.inr ⟨0, _, rfl, by simp⟩)⟩)) ?_
       rintro F1 H1 ⟨_, _, _, _, ⟨rr, rfl, hq, hrm⟩, hF, hH⟩
       injection hq with hq1 hq2; subst hq1; subst hq2
       (try simp only [nsl, Nat.reduceAdd, Nat.reduceLT, Nat.reduceSub] at hF); (try simp only [nsl, Nat.reduceAdd, Nat.reduceLT, Nat.reduceSub] at hH); subst hF; subst hH
       have h64r : in64 rr := by simp only [List.mem_cons, List.not_mem_nil, or_false] at hrm; simp only [in64] at *; omega
       clear hrm
       refine WE ?_)
    | (refine aw_region (id := 3) ?_
       refine WO ?_
       refine al_ef rfl (ef_callm false (fun _ => range_a lo hi _ _ _ hs (by omega) (by omega) (by omega) (by omega) (by omega) (by omega)) rfl .fn rfl (by decide) (by kernel_rfl) rfl rfl (fun _g => .cons (.p rfl) (.cons (.c rfl) (.cons (.c rfl) .nil))) (fun _g => .cons (.c rfl) (.cons (.c rfl) .nil)) (by simp)) ?_
       rintro F1 H1 ⟨_, _, _, _, ⟨rr, ar, rfl, hq, hr3, hr4, hr1, hr2, _⟩, hF, hH⟩
       injection hq with hq1 hq2; subst hq1; subst hq2
       (try simp only [nsl, Nat.reduceAdd, Nat.reduceLT, Nat.reduceSub] at hF); (try simp only [nsl, Nat.reduceAdd, Nat.reduceLT, Nat.reduceSub] at hH); subst hF; subst hH
       have h64r : in64 rr := by simp only [in64]; omega
       refine WE ?_)
    | (refine aw_region ?_; refine WE ?_))
  all_goals (refine aret_1 [some 0] _ rfl rfl rfl (by decide) (ZNK rfl) ZCH ?_)
  all_goals exact ⟨_, _, rfl, rfl, by omega, by omega, by assumption⟩
end Go.Proofs.YthanangkmjjbaaaGreatDoor

/- From a walk by value to a given statement: the argument, what is left as it was. -/
namespace Go.Proofs.YthanangkmjjbaaaGreatDoor
open Go Go.ChangeShapes Go.WideShapes Go.ChangeAt Go.RowKit
set_option maxRecDepth 100000
theorem Tryz.own : ownKnob Tryz.prog.godebug = none := by kernel_rfl
theorem Tryz.cells3 : Tryz.prog.cellsOf 3 = 1 := by kernel_rfl
theorem Tryz.kids : Kids Tryz.prog (· < Tryz.prog.types.size) := kids_rows (by kernel_rfl) (by kernel_rfl)
theorem Tryz.full : ∀ t e, t < Tryz.prog.types.size → Tryz.prog.underlying t = some (.slice e) → 0 < Tryz.prog.cellsOf e := slices_full_of Tryz.prog (by kernel_rfl)

/-- An argument that is a slice of integers, as the logic has it. -/
theorem arg_ints {H : Type} {enc : TypeId × Value → H} {W : World} {A : Option Addr} {len cap fuel : Nat} {x : DataW H × List MemPlace} (hf : DataW.trod enc Tryz.prog W 0 (fun _ => true) true fuel 22 (Value.cells (.slice A len cap)).toList = some x) :
    ∃ zs, StrOk zs ∧ Good W (fun b => b < W.heap.size) (.r (.slice A len cap) (zs.map fun z => [I z])) := by
  rcases open_ints Tryz.underlying22 Tryz.underlying3 Tryz.cells3 hf with ⟨hcs, -⟩ | ⟨a, len', cap', zs, hcs, -, hl, hm, hz, -, hcell, hwf⟩
  · simp only [Value.cells, List.cons.injEq, Value.slice.injEq, and_true] at hcs
    obtain ⟨rfl, rfl, rfl⟩ := hcs
    exact ⟨[], ⟨fun _ h => (List.not_mem_nil h).elim, Nat.zero_le _⟩, .nil _ _⟩
  · simp only [Value.cells, List.cons.injEq, Value.slice.injEq, and_true] at hcs
    obtain ⟨rfl, rfl, rfl⟩ := hcs
    simp only [if_true] at hz
    refine ⟨zs.take len, ⟨fun z hz' => ?_, ?_⟩, ?_⟩
    · have := hwf z (List.mem_of_mem_take hz')
      simpa [Lit.wf, IntKind.min, IntKind.max, IntKind.signed, IntKind.bits, in64] using this
    · unfold maxLen at hm; simp; omega
    · rcases Nat.eq_zero_or_pos len with h0 | hp
      · subst h0
        rw [List.take_zero]
        exact .nil _ _
      · obtain ⟨gb, go, gs⟩ := a
        have hgs : gs = none := by simpa [Addr.add] using World.cell?_spot (hcell 0 (by omega))
        subst hgs
        have hlt : gb < W.heap.size := by
          have h := hcell 0 (by omega)
          rw [add_plain] at h
          rcases Nat.lt_or_ge gb W.heap.size with h1 | h1
          · exact h1
          · simp [World.cell?, h1] at h
        refine .r _ gb go 1 len cap (by simp; omega) hl hlt (fun row hr => ?_) (fun k j row u hk hj => ?_) (fun row hr u hu => ?_)
        · obtain ⟨z, -, rfl⟩ := List.mem_map.1 hr; rfl
        · rw [List.getElem?_map] at hk
          cases hz' : (zs.take len)[k]? with
          | none => rw [hz'] at hk; cases hk
          | some z =>
            rw [hz'] at hk
            simp only [Option.map_some, Option.some.injEq] at hk
            subst hk
            have hk2 : k < len := by
              have := (List.getElem?_eq_some_iff.1 hz').1
              simp at this; omega
            have hzk : zs[k]? = some z := by rw [List.getElem?_take, if_pos hk2] at hz'; exact hz'
            have h := hcell k (by omega)
            rw [add_plain, List.getD, hzk] at h
            match j, hj with
            | 0, hj =>
              simp only [List.getElem?_cons_zero, Option.some.injEq] at hj
              subst hj
              simpa [CV.den] using h
            | j + 1, hj => simp at hj
        · obtain ⟨z, -, rfl⟩ := List.mem_map.1 hr
          simp only [List.mem_singleton] at hu
          subst hu
          exact .s _
theorem rh_none (W : World) : RH W (fun b => b < W.heap.size) [] [] :=
  ⟨rfl, fun i _ _ h => by simp [atB] at h, fun i _ h => by simp [atB] at h, fun i _ h => by simp [atB] at h, fun _ h => h, fun i _ h => by simp at h⟩
/-- Behind a call that wrote into no block that was there. -/
theorem stp_below {W W' : World} (h : Stp W W' (fun B => ∃ i, atB ([] : List (Option Nat)) i = some B)) : ∀ b, b < W.heap.size → W'.heap[b]? = W.heap[b]? := fun b hb => h.block b hb (fun ⟨i, hi⟩ => by simp [atB] at hi)
theorem kept_all {W W' : World} {may : MemPlace → Prop} (h : Stp W W' (fun B => ∃ i, atB ([] : List (Option Nat)) i = some B)) : W.keptBut W' may := by
  refine ⟨h.os, h.output, fun i hi => ?_⟩
  rw [stp_below h i hi]
  cases W.heap[i]? with
  | none => rfl
  | some o =>
    cases o with
    | cells c t fr => exact ⟨rfl, rfl, rfl, fun _ _ => rfl⟩
    | map es clock => exact .inr ⟨rfl, rfl⟩
    | _ => rfl
theorem same_all {W W' : World} (h : Stp W W' (fun B => ∃ i, atB ([] : List (Option Nat)) i = some B)) {p : MemPlace} (hp : p.block < W.heap.size) : W.sameAt W' p := by
  have hb := stp_below h p.block hp
  cases p with
  | cell b off =>
    simp only [World.sameAt]
    exact World.cell?_of_block hb
  | map b => exact hb
end Go.Proofs.YthanangkmjjbaaaGreatDoor

/- From a walk by value to a tied card: the row lists two package-level variables, which the witness lays. -/
namespace Go.Proofs.YthanangkmjjbaaaGreatDoor
open Go Go.ChangeShapes Go.WideShapes Go.ChangeAt Go.RowKit
set_option maxRecDepth 100000
abbrev laidL : List (String × DataW Unit) := [("unicode/utf8.acceptRanges", Rows.laid_unicode_utf8_acceptRanges), ("unicode/utf8.first", Rows.laid_unicode_utf8_first)]
theorem laid_shaped (os : Os) : ((World.laidAll Tryz.prog os laidL).forCall (fun _ _ => 0) ⟨#[], #[.slice none 0 0], []⟩).Shaped Tryz.prog := World.shaped_of_ZipB (by kernel_rfl) (by kernel_rfl)
theorem laid_met (os : Os) : laidMetH Tryz.prog laidL ((World.laidAll Tryz.prog os laidL).forCall (fun _ _ => 0) ⟨#[], #[.slice none 0 0], []⟩).memory := by
  rw [MakeChecks.laidMetH_plain _ _ _ (by kernel_rfl)]; exact laidMet_laidAll _ (by kernel_rfl) (by kernel_rfl)
theorem kc_laidOut : laidOutB Tryz.pinned.checked.prog = true := by kernel_rfl
theorem kc_mapsRowed : mapsRowed Tryz.pinned.checked.prog = true := by kernel_rfl
theorem kc_heard : Tryz.pinned.checked.prog.stopsHeard = true := by kernel_rfl
theorem kc_enter : Tryz.pinned.checked.prog.mayEnter = true := by kernel_rfl
theorem kc_looks : false = Tryz.pinned.checked.prog.looks [] := by kernel_rfl
end Go.Proofs.YthanangkmjjbaaaGreatDoor

/- A slice literal that is only read from the first; slices of what is only read; several orders, walked in one step. -/
namespace Go.Proofs.YthanangkmjjbaaaGreatDoor
open Go Go.RowKit
set_option maxRecDepth 100000
section
variable {P : Program} {N : Nat} {E : Env} {F : Fm} {H : List OB} {o : Oper}
end
section
variable {N : Nat} {E : Env} {F : Fm} {H : List OB} {o : Oper}
theorem Yslr {t e : TypeId} {sz : Nat} {x : Operand} {lo hi : Option Operand} {l h : Nat} {v : Value} {rows : List (List CV)} (ho : o.op = .slice t x lo hi none := by exact rfl) (ht : bE.get t = some (e, sz) := by exact rfl) (hx : ev F x = some (.c (.r v rows)) := by exact rfl) (hlo : (lo = none ∧ l = 0) ∨ ∃ y kd z, lo = some y ∧ ev F y = some (.c (.s (.int kd z))) ∧ z = l := by first | exact .inl ⟨rfl, rfl⟩ | exact .inr ⟨_, _, _, rfl, rfl, by first | rfl | omega⟩)
    (hhi : (hi = none ∧ h = rows.length) ∨ ∃ y kd z, hi = some y ∧ ev F y = some (.c (.s (.int kd z))) ∧ z = h := by first | exact .inl ⟨rfl, rfl⟩ | exact .inr ⟨_, _, _, rfl, rfl, by first | rfl | omega⟩) (hrow : ∀ row ∈ rows, row.length = sz := by assumption) (hlh : l ≤ h := by omega) (hhc : h ≤ rows.length := by omega) : Rd Tryz.prog N E o F H (.c (.r (subV v l h sz) ((rows.take h).drop l))) := rd_slicer ho (KE ht) hx hrow hlo hhi hlh hhc
variable {Q : Exit → Fm → List OB → Prop} {ops : Array Oper}
/-- The next operation, where several orders go on alike. -/
def AM1 (P : Program) (N : Nat) (E : Env) (ops : Array Oper) (o : Oper) (i : Nat) (U : Option (List Nat)) (n : Nat) (ps : List Plan) (F : Fm) (H : List OB) (Q : Exit → Fm → List OB → Prop) : Prop := ops[i]? = some o → headsOf ps = [(i, U)] → AM P N E ops (n + 1) ps F H Q
theorem dkm {P : Program} {k i n : Nat} {U : Option (List Nat)} {ps : List Plan} (hh : headsOf ps = [(i, U)]) (hi : ops[i]? = some o) (ho : okc ops o F = some k) (h : KD k (AM1 P N E ops o i U n ps F H Q)) : AM P N E ops (n + 1) ps F H Q := (show AM1 P N E ops o i U n ps F H Q from h) hi hh
theorem am_rdg {P : Program} {i n d : Nat} {x : AV} {ps : List Plan} (hr : Rd P N E o F H x) (h : AM P N E ops n (tailsOf (i, none) ps) ((d, x) :: F) H Q) (hg : gok ops o F = true := by exact rfl) (hd : o.dst = some d := by exact rfl) (hN : d < N := by decide) : AM1 P N E ops o i none n ps F H Q := fun ho hh S ρ a w hR => by
  obtain ⟨h1, h2⟩ := hr S ρ a w hR
  refine wpM_r hh rfl ho fun K hK => ?_
  rw [if_pos (wanted_of (P := P) hg hR)]
  unfold Oper.still
  rw [h1]
  refine ⟨rfl, hK _ ?_⟩
  rw [hd]
  exact h S ρ _ w (hR.put hN h2)
theorem am_skip {P : Program} {i n d : Nat} {ps : List Plan} (hg : gd ops o F = some false) (hd : o.dst = some d) (hN : d < N) (h : AM P N E ops n (tailsOf (i, none) ps) ((d, un) :: F) H Q) : AM1 P N E ops o i none n ps F H Q := fun ho hh S ρ a w hR => by
  refine wpM_r hh rfl ho fun K hK => ?_
  have hw : ¬ Region.wanted o (yielded ops a.tmps) = true := by
    obtain ⟨j, b, oj, t, h1, h2, h3, ⟨b', h4, h5⟩ | ⟨h4, h5⟩⟩ := gd_of hg
    · simp only [Region.wanted, h1, yielded_of hR h2 h3 h4]
      cases b <;> cases b' <;> simp_all
    · simp [Region.wanted, h1, skipped_of hR h2 h3 h4]
  rw [if_neg hw, hd]
  exact hK _ (h S ρ _ w (hR.put hN (.c (.s _))))
theorem M5 {i n d : Nat} {v : AV} {ps : List Plan} (h : rdT N ops o F H = some (d, v)) (k : AM Tryz.prog N E ops n (tailsOf (i, none) ps) ((d, v) :: F) H Q) : AM1 Tryz.prog N E ops o i none n ps F H Q := by
  obtain ⟨h1, h2, ⟨rfl, h3⟩ | ⟨h3, h4⟩⟩ := rdT_of h
  · exact am_skip h3 h1 h2 k
  · exact am_rdg (rdV_of h4) k h3 h1 h2
theorem am_efg {P : Program} {F2 : Fm} {H2 : List OB} {i n : Nat} {U : List Nat} {ps : List Plan} (hr : Ef P N E o F H fun F' H' => F' = F2 ∧ H' = H2) (hU : ∀ j ∈ U, Ag P N E ops F2 H2 j) (h : AM P N E ops n (tailsOf (i, some U) ps) F2 H2 Q) (hg : gok ops o F = true := by exact rfl) : AM1 P N E ops o i (some U) n ps F H Q := fun ho hh S ρ a w hR => by
  refine wpM_e hh rfl ho fun K' hK => ?_
  rw [if_pos (wanted_of (P := P) hg hR)]
  refine effO_mono (fun a' w' hh => ?_) (hr S ρ a w hR)
  obtain ⟨S', ρ', F', H', ⟨h1, h2⟩, hR'⟩ := hh
  subst h1; subst h2
  exact hK _ _ (fun j hj => hU j hj S' ρ' a' w' hR') (h S' ρ' a' w' hR')
/-- One operation of several orders. -/
theorem WX3 {G A : Prop} (h : G) (hs : Hid G → A := by (intro h; refine dkm rfl rfl rfl ?_; (first | ((with_reducible refine kd 20 ?_); refine M5 rfl ?_) | ((with_reducible refine kd 4 ?_); first | refine M5 rfl ?_ | refine am_rdg YL ?_ | refine am_rdg YK ?_) | ((with_reducible refine kd 1 ?_); first | refine am_rdg Zeql ?_ | refine am_rdg Zadd ?_ | refine am_rdg Zlss ?_ | refine am_rdg Zneq ?_ | refine am_rdg Zsub ?_ | refine am_rdg Zmul ?_ | refine am_rdg Zgtr ?_ | refine am_rdg Zleq ?_ | refine am_rdg Zgeq ?_ | refine am_rdg Zquo ?_ | refine am_rdg Zquw ?_ | refine am_rdg Zrem ?_ | refine am_rdg Zrew ?_ | refine am_rdg Ynil ?_ | refine am_rdg Yeqb ?_ | refine am_rdg Yneb ?_) | ((with_reducible refine kd 2 ?_); first | refine am_efg Ysto (by (repeat first | exact ag_none | (refine ag_cons (by first | exact agT rfl rfl rfl rfl | exact agX (hr := YL) | exact agX (hr := YK) | exact agX (hr := YIj) | exact agX (hr := YJ) | exact agX (hr := YI) | exact agX (hr := Ybld) | exact agAdd | exact agSub | exact agMul | exact agX (hr := Ysli) | exact agX (hr := Yslr) | exact agX (hr := Zquo) | exact agX (hr := Zrem) | exact agX (hr := Zlss) | exact agX (hr := Zeql) | exact agX (hr := Zneq)) ?_))) ?_ | refine am_efg Ystr (by (repeat first | exact ag_none | (refine ag_cons (by first | exact agT rfl rfl rfl rfl | exact agX (hr := YL) | exact agX (hr := YK) | exact agX (hr := YIj) | exact agX (hr := YJ) | exact agX (hr := YI) | exact agX (hr := Ybld) | exact agAdd | exact agSub | exact agMul | exact agX (hr := Ysli) | exact agX (hr := Yslr) | exact agX (hr := Zquo) | exact agX (hr := Zrem) | exact agX (hr := Zlss) | exact agX (hr := Zeql) | exact agX (hr := Zneq)) ?_))) ?_) | ((with_reducible refine kd 3 ?_); first | refine am_rdg YI ?_ | refine am_rdg YJ ?_) | ((with_reducible refine kd 14 ?_); first | refine M5 rfl ?_ | refine am_rdg (rd_lens rfl Tryz.underlying9 rfl) ?_) | ((with_reducible refine kd 5 ?_); first | refine am_rdg Ysli ?_ | refine am_rdg Yslr ?_) | ((with_reducible refine kd 6 ?_); refine am_efg Ybsl (by (repeat first | exact ag_none | (refine ag_cons (by first | exact agT rfl rfl rfl rfl | exact agX (hr := YL) | exact agX (hr := YK) | exact agX (hr := YIj) | exact agX (hr := YJ) | exact agX (hr := YI) | exact agX (hr := Ybld) | exact agAdd | exact agSub | exact agMul | exact agX (hr := Ysli) | exact agX (hr := Yslr) | exact agX (hr := Zquo) | exact agX (hr := Zrem) | exact agX (hr := Zlss) | exact agX (hr := Zeql) | exact agX (hr := Zneq)) ?_))) ?_) | ((with_reducible refine kd 7 ?_); refine am_efg Yall (by (repeat first | exact ag_none | (refine ag_cons (by first | exact agT rfl rfl rfl rfl | exact agX (hr := YL) | exact agX (hr := YK) | exact agX (hr := YIj) | exact agX (hr := YJ) | exact agX (hr := YI) | exact agX (hr := Ybld) | exact agAdd | exact agSub | exact agMul | exact agX (hr := Ysli) | exact agX (hr := Yslr) | exact agX (hr := Zquo) | exact agX (hr := Zrem) | exact agX (hr := Zlss) | exact agX (hr := Zeql) | exact agX (hr := Zneq)) ?_))) ?_) | ((with_reducible refine kd 8 ?_); refine am_efg Zbox (by (repeat first | exact ag_none | (refine ag_cons (by first | exact agT rfl rfl rfl rfl | exact agX (hr := YL) | exact agX (hr := YK) | exact agX (hr := YIj) | exact agX (hr := YJ) | exact agX (hr := YI) | exact agX (hr := Ybld) | exact agAdd | exact agSub | exact agMul | exact agX (hr := Ysli) | exact agX (hr := Yslr) | exact agX (hr := Zquo) | exact agX (hr := Zrem) | exact agX (hr := Zlss) | exact agX (hr := Zeql) | exact agX (hr := Zneq)) ?_))) ?_) | ((with_reducible refine kd 9 ?_); refine am_rdg Ybld ?_) | ((with_reducible refine kd 10 ?_); refine am_rdg Yneg ?_) | ((with_reducible refine kd 11 ?_); refine am_rdg Ymkf ?_) | ((with_reducible refine kd 12 ?_); refine am_efg Ymak (by (repeat first | exact ag_none | (refine ag_cons (by first | exact agT rfl rfl rfl rfl | exact agX (hr := YL) | exact agX (hr := YK) | exact agX (hr := YIj) | exact agX (hr := YJ) | exact agX (hr := YI) | exact agX (hr := Ybld) | exact agAdd | exact agSub | exact agMul | exact agX (hr := Ysli) | exact agX (hr := Yslr) | exact agX (hr := Zquo) | exact agX (hr := Zrem) | exact agX (hr := Zlss) | exact agX (hr := Zeql) | exact agX (hr := Zneq)) ?_))) ?_) | ((with_reducible refine kd 13 ?_); first | refine am_rdg (rd_min2 (ty := 0) rfl rfl rfl) ?_ | refine am_rdg (rd_max2 rfl rfl rfl) ?_ | refine am_rdg (rd_min3 rfl rfl rfl rfl) ?_ | refine am_rdg (rd_max3 rfl rfl rfl rfl) ?_ | refine am_rdg (rd_min4 rfl rfl rfl rfl rfl) ?_)); exact h.out)) : A := hs ⟨h⟩
/-- Operations of several orders, as far as they go on alike. -/
theorem WM {G A : Prop} (h : G) (hs : Hid G → A := by (intro h; (repeat refine WX3 ?_); exact h.out)) : A := hs ⟨h⟩
/-- .. to the end. -/
theorem WN {G A : Prop} (h : G) (hs : Hid G → A := by (intro h; (repeat refine WX3 ?_); refine am_nil ?_; (repeat with_reducible first | apply S1 | apply S2 | apply S3 | apply S4 | apply S5 | apply S6 | apply S7 | apply S8 | refine S0 rfl ?_ | apply SA | apply SB | apply SC); exact h.out)) : A := hs ⟨h⟩
/-- Read again. -/
theorem AGX {U : List Nat} (h : ∀ j ∈ U, Ag Tryz.prog N E ops F H j := by (repeat first | exact ag_none | (refine ag_cons (by first | exact agT rfl rfl rfl rfl | exact agX (hr := YL) | exact agX (hr := YK) | exact agX (hr := YIj) | exact agX (hr := YJ) | exact agX (hr := YI) | exact agX (hr := Ybld) | exact agAdd | exact agSub | exact agMul | exact agX (hr := Ysli) | exact agX (hr := Yslr) | exact agX (hr := Zquo) | exact agX (hr := Zrem) | exact agX (hr := Zlss) | exact agX (hr := Zeql) | exact agX (hr := Zneq)) ?_))) : ∀ j ∈ U, Ag Tryz.prog N E ops F H j := h
end
end Go.Proofs.YthanangkmjjbaaaGreatDoor

/- The logic over values: an array that was lent may give way to one that is new. -/
namespace Go.Proofs.YthanangkmjjbaaaGreatDoor
open Go Go.RowKit
section
variable {N : Nat} {E : Env} {F : Fm} {H : List OB} {K : Fm → List OB → Prop}
end
section
variable {P : Program} {N : Nat} {E : Env} {F : Fm} {H : List OB} {K : Fm → List OB → Prop} {Q : Exit → Fm → List OB → Prop} {ops : Array Oper}
end
end Go.Proofs.YthanangkmjjbaaaGreatDoor
