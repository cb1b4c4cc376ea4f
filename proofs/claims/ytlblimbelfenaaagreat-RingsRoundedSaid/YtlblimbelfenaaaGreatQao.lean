/- Plain law: meshes by their numbers; their faults, boxes, heights, levels and adaptive tops. -/
import Derived.Test.YtlblimbelfenaaaGreatQan
import Derived.Test.YtlblimbelfenaaaGreatRows
import Derived.ProofKit
import Derived.ReadAgain
import Derived.ChangeSlices
import Derived.ChangeStays
import Derived.JoinedOf
set_option linter.unusedSimpArgs false
set_option linter.unusedVariables false
/- The stream of raw numbers, in the logic over values: each of its functions gives some value within its range and moves its counter on. -/
namespace Go.Proofs.YtlblimbelfenaaaGreat
open Go Go.RowKit
set_option maxRecDepth 100000
abbrev I (n : Int) : CV := .s (.int .i64 n)
abbrev B (b : Bool) : CV := .s (.bool b)
def in64 (n : Int) : Prop := -9223372036854775808 ≤ n ∧ n ≤ 9223372036854775807
def belowF (x n : Int) : Int := if n < 1 then 0 else if Int.tmod x n < 0 then wrap64 (Int.tmod x n + n) else Int.tmod x n
theorem belowF_range (x n : Int) (hn : in64 n) : 0 ≤ belowF x n ∧ (1 ≤ n → belowF x n < n) := by
 unfold belowF
 by_cases h : n < 1
 ·rw [if_pos h]; omega
 ·rw [if_neg h]
  have hl : Int.tmod x n < n := Int.tmod_lt_of_pos x (by omega)
  have hg : -n < Int.tmod x n := Int.lt_tmod_of_pos x (by omega)
  unfold in64 at hn
  split
  ·rw [IntWalk.wrap64_in _ (by constructor <;> omega)]; omega
  ·omega
theorem below_a (x n : Int) : ACalls Tryz.prog 107 [.c (I x), .c (I n)] [] fun u H => u = .c (I (belowF x n)) ∧ H = [] := by
 refine acalls_of (N := 16) Tryz.func107 rfl rfl (by simp) fun E hE => ?_
 repeat' (first
  | (with_reducible refine aw_seq ?_) | (with_reducible refine aseq_n ?_) | (with_reducible refine aseq_r ?_) | (with_reducible refine ablk_n ?_) | (with_reducible refine ablk_r ?_) | (with_reducible refine ablk_e ?_) | (with_reducible refine ablk_o rfl ?_) | (with_reducible refine aseq_e ?_) | (with_reducible refine aw_skip ?_) | (with_reducible refine aw_block ?_) | (with_reducible refine aw_ret ?_) | (with_reducible refine aw_exit ?_)
  | refine aw_cond_t rfl ?_ | refine aw_cond_f rfl ?_ | refine aw_if_t rfl (by assumption) ?_ | refine aw_if_f rfl (by assumption) ?_ | refine aw_if rfl (fun _ => ?_) (fun _ => ?_) | refine aw_cond rfl (fun _ => ?_) (fun _ => ?_)
  | (refine aw_region ?_; refine WE ?_))
 all_goals (refine aret_1 [] _ rfl rfl rfl (by decide) (ZNK rfl) (fun _ => .nil) ?_)
 all_goals (refine ⟨congrArg (fun z => AV.c (I z)) ?_, rfl⟩; unfold belowF; simp [*]; try omega)

abbrev strm (v : Value) (zs : List Int) (a : Int) : OB := .box [.c (.r v (zs.map fun z => [I z])), .c (I a)]
theorem strm_flat {K : CV → Prop} {v : Value} {zs : List Int} {a : Int} (h : K (.r v (zs.map fun z => [I z]))) : ∀ o ∈ [strm v zs a], FlatO K o := fun o ho => by
 rw [List.mem_singleton.1 ho]
 intro x hx
 simp only [List.mem_cons, List.not_mem_nil, or_false] at hx
 rcases hx with rfl | rfl
 ·exact .c (.inr h)
 ·exact .c (.inl trivial)
structure StrOk (zs : List Int) : Prop where
 ok : ∀ z ∈ zs, in64 z
 len : zs.length ≤ 9223372036854775807

theorem next_a (n : Int) (v : Value) (zs : List Int) (a : Int) (hs : StrOk zs) (h0 : 0 ≤ a) (h1 : a ≤ 1000000000) (hn : in64 n) :
    ACalls Tryz.prog 49 [.p 0 0 0, .c (I n)] [strm v zs a] fun u H => ∃ r : Int, u = .c (I r) ∧ H = [strm v zs (a + 1)] ∧ 0 ≤ r ∧ (1 ≤ n → r < n) := by
 refine acalls_of (N := 64) Tryz.func49 rfl rfl (by simp) fun E hE => ?_
 unfold in64 at hn
 have hl := hs.len
 by_cases he : zs.length = 0
 ·have h00 : zs = [] := List.eq_nil_of_length_eq_zero he
  subst h00
  repeat' (first
   | (with_reducible refine aw_seq ?_) | (with_reducible refine aseq_n ?_) | (with_reducible refine aseq_r ?_) | (with_reducible refine ablk_n ?_) | (with_reducible refine ablk_r ?_) | (with_reducible refine ablk_e ?_) | (with_reducible refine ablk_o rfl ?_) | (with_reducible refine aseq_e ?_) | (with_reducible refine aw_skip ?_) | (with_reducible refine aw_block ?_) | (with_reducible refine aw_ret ?_) | (with_reducible refine aw_exit ?_)
   | refine aw_cond_t rfl ?_ | refine aw_cond_f rfl ?_ | refine aw_if_t rfl (by assumption) ?_ | refine aw_if_f rfl (by assumption) ?_ | refine aw_if rfl (fun _ => ?_) (fun _ => ?_) | refine aw_cond rfl (fun _ => ?_) (fun _ => ?_)
   | (refine aw_region (id := 3) ?_
      refine WO ?_
      refine al_ef rfl (ef_call0 false (fun _ => below_a _ _) rfl .fn rfl (by decide) (by kernel_rfl) rfl (fun _g => .cons (.c rfl) (.cons (.c rfl) .nil)) (by simp)) ?_
      rintro _ _ ⟨_, _, _, ⟨rfl, rfl⟩, rfl, rfl⟩
      refine WE ?_)
   | (refine aw_regionT (id := 4) [(0, none), (1, none), (2, none), (3, none), (4, none), (5, none), (6, none), (7, none), (8, none), (9, none), (10, none), (11, none)] hMixed (by kernel_rfl) ?_
      refine WQ ?_)
   | (refine aw_regionT (id := 5) [(0, none), (1, none), (2, none), (3, none), (4, none), (5, none), (6, none), (7, none), (8, none), (9, none), (10, none), (11, none)] hMixed (by kernel_rfl) ?_
      refine WQ ?_)
   | (refine aw_region ?_; refine WE ?_))
  all_goals (refine aret_1 [some 0] _ rfl rfl rfl (by decide) (ZNK rfl) ZCH ?_)
  all_goals exact ⟨_, rfl, rfl, belowF_range _ n hn⟩
 ·have hp : 0 < zs.length := by omega
  refine WA ?_
  refine WA ?_
  refine WA ?_
  refine aw_if_f rfl (by simpa using he) ?_
  have e1 : (zs.map fun z => [I z]).length = zs.length := by simp
  have hq : ((zs.map fun z => [I z]).length : Int) = zs.length := by rw [e1]
  have hmod : 0 ≤ a % (zs.length : Int) := Int.emod_nonneg _ (by omega)
  have hmod2 : a % (zs.length : Int) < zs.length := Int.emod_lt_of_pos _ (by omega)
  refine ZZ ?_
  refine aw_regionT [(0, none), (1, none), (2, none), (3, none), (4, none), (5, none), (6, none), (7, none), (8, none), (9, none), (10, none), (11, none)] hMixed (by kernel_rfl) ?_
  refine WQ ?_
  refine ZZ ?_
  refine aw_regionT [(0, none), (1, none), (2, none), (3, none), (4, none), (5, none), (6, none), (7, none), (8, none), (9, none), (10, none), (11, none)] hMixed (by kernel_rfl) ?_
  refine WQ ?_
  obtain ⟨i, hi⟩ : ∃ i : Nat, a % (zs.length : Int) = i := ⟨(a % (zs.length : Int)).toNat, by omega⟩
  have hk : i < zs.length := by omega
  obtain ⟨z, hz0⟩ : ∃ z, zs[i]? = some z := ⟨_, List.getElem?_eq_getElem hk⟩
  have hrow : (zs.map fun z => [I z])[i]? = some [I z] := by rw [List.getElem?_map, hz0]; rfl
  refine ZR ?_
  iterate 5 refine WX1 ?_
  refine ZA (rd_indexq rfl (KE (t := 22) rfl) rfl rfl (i := i) (by rw [e1, show a + 1 - 1 = a from by omega]; exact hi) hrow rfl) ?_
  refine WO ?_
  refine al_ef rfl (ef_call0 false (fun _ => below_a _ _) rfl .fn rfl (by decide) (by kernel_rfl) rfl (fun _g => .cons (.c rfl) (.cons (.c rfl) .nil)) (by simp)) ?_
  rintro _ _ ⟨_, _, _, ⟨rfl, rfl⟩, rfl, rfl⟩
  refine WO ?_
  refine al_ef rfl (ef_call0 false (fun _ => below_a _ _) rfl .fn rfl (by decide) (by kernel_rfl) rfl (fun _g => .cons (.c rfl) (.cons (.c rfl) .nil)) (by simp)) ?_
  rintro _ _ ⟨_, _, _, ⟨rfl, rfl⟩, rfl, rfl⟩
  refine WE ?_
  all_goals (refine aret_1 [some 0] _ rfl rfl rfl (by decide) (ZNK rfl) ZCH ?_)
  all_goals exact ⟨_, rfl, rfl, belowF_range _ n hn⟩
theorem flip_a (n : Int) (v : Value) (zs : List Int) (a : Int) (hs : StrOk zs) (h0 : 0 ≤ a) (h1 : a ≤ 1000000000) (hn : in64 n) :
    ACalls Tryz.prog 7 [.p 0 0 0, .c (I n)] [strm v zs a] fun u H => ∃ b : Bool, u = .c (B b) ∧ H = [strm v zs (a + 1)] := by
 unfold in64 at hn
 refine acalls_of (N := 9) Tryz.func7 rfl rfl (by simp) fun E hE => ?_
 repeat' (first
  | (with_reducible refine aw_seq ?_) | (with_reducible refine aseq_n ?_) | (with_reducible refine aseq_r ?_) | (with_reducible refine ablk_n ?_) | (with_reducible refine ablk_r ?_) | (with_reducible refine ablk_e ?_) | (with_reducible refine ablk_o rfl ?_) | (with_reducible refine aseq_e ?_) | (with_reducible refine aw_skip ?_) | (with_reducible refine aw_block ?_) | (with_reducible refine aw_ret ?_) | (with_reducible refine aw_exit ?_)
  | refine aw_cond_t rfl ?_ | refine aw_cond_f rfl ?_ | refine aw_if_t rfl (by assumption) ?_ | refine aw_if_f rfl (by assumption) ?_ | refine aw_if rfl (fun _ => ?_) (fun _ => ?_) | refine aw_cond rfl (fun _ => ?_) (fun _ => ?_)
  | (refine aw_region (id := 1) ?_
     refine WO ?_
     refine al_ef rfl (ef_callm false (fun _ => next_a _ _ _ _ hs (by omega) (by omega) (by simp only [in64]; omega)) rfl .fn rfl (by decide) (by kernel_rfl) rfl rfl (fun _g => .cons (.p rfl) (.cons (.c rfl) .nil)) (fun _g => .cons (.c rfl) (.cons (.c rfl) .nil)) (by simp)) ?_
     rintro F1 H1 ⟨_, _, _, _, ⟨r, rfl, hq, hr1, hr2⟩, hF, hH⟩
     injection hq with hq1 hq2; subst hq1; subst hq2
     (refine NST hF hH ?_; clear hF hH; rintro rfl rfl)
     refine WE ?_)
  | (refine aw_region ?_; refine WE ?_))
 all_goals (refine aret_1 [some 0] _ rfl rfl rfl (by decide) (ZNK rfl) ZCH ?_)
 all_goals exact ⟨_, rfl, rfl⟩
theorem range_a (lo hi : Int) (v : Value) (zs : List Int) (a : Int) (hs : StrOk zs) (h0 : 0 ≤ a) (h1 : a ≤ 1000000000) (h2 : -4000000000000000000 ≤ lo) (h3 : lo ≤ 4000000000000000000) (h4 : -4000000000000000000 ≤ hi) (h5 : hi ≤ 4000000000000000000) :
    ACalls Tryz.prog 45 [.p 0 0 0, .c (I lo), .c (I hi)] [strm v zs a] fun u H => ∃ r a', u = .c (I r) ∧ H = [strm v zs a'] ∧ a ≤ a' ∧ a' ≤ a + 1 ∧ lo ≤ r ∧ (lo ≤ hi → r ≤ hi) ∧ (hi < lo → r = lo) := by
 refine acalls_of (N := 19) Tryz.func45 rfl rfl (by simp) fun E hE => ?_
 repeat' (first
  | (with_reducible refine aw_seq ?_) | (with_reducible refine aseq_n ?_) | (with_reducible refine aseq_r ?_) | (with_reducible refine ablk_n ?_) | (with_reducible refine ablk_r ?_) | (with_reducible refine ablk_e ?_) | (with_reducible refine ablk_o rfl ?_) | (with_reducible refine aseq_e ?_) | (with_reducible refine aw_skip ?_) | (with_reducible refine aw_block ?_) | (with_reducible refine aw_ret ?_) | (with_reducible refine aw_exit ?_)
  | refine aw_cond_t rfl ?_ | refine aw_cond_f rfl ?_ | refine aw_if_t rfl (by assumption) ?_ | refine aw_if_f rfl (by assumption) ?_ | refine aw_if rfl (fun _ => ?_) (fun _ => ?_) | refine aw_cond rfl (fun _ => ?_) (fun _ => ?_)
  | (refine aw_region (id := 3) ?_
     refine WO ?_
     refine al_ef rfl (ef_callm false (fun _ => next_a _ _ _ _ hs (by omega) (by omega) (by simp only [in64]; omega)) rfl .fn rfl (by decide) (by kernel_rfl) rfl rfl (fun _g => .cons (.p rfl) (.cons (.c rfl) .nil)) (fun _g => .cons (.c rfl) (.cons (.c rfl) .nil)) (by simp)) ?_
     rintro F1 H1 ⟨_, _, _, _, ⟨r, rfl, hq, hr1, hr2⟩, hF, hH⟩
     injection hq with hq1 hq2; subst hq1; subst hq2
     (refine NST hF hH ?_; clear hF hH; rintro rfl rfl)
     refine WE ?_)
  | (refine aw_region ?_; refine WE ?_))
 all_goals (refine aret_1 [some 0] _ rfl rfl rfl (by decide) (ZNK rfl) ZCH ?_)
 all_goals exact ⟨_, _, rfl, rfl, by omega, by omega, by omega, by omega, by omega⟩
theorem pick_a (vals : List Int) (q v : Value) (zs : List Int) (a : Int) (hs : StrOk zs) (h0 : 0 ≤ a) (h1 : a ≤ 1000000000) (hv : vals ≠ []) (hl : vals.length ≤ 1000000) :
    ACalls Tryz.prog 35 [.p 0 0 0, .c (.r q (vals.map fun z => [I z]))] [strm v zs a] fun u H => ∃ r, u = .c (I r) ∧ H = [strm v zs (a + 1)] ∧ r ∈ vals := by
 have hp : 0 < vals.length := List.length_pos_iff.2 hv
 have e1 : (vals.map fun z => [I z]).length = vals.length := by simp
 refine acalls_of (N := 12) Tryz.func35 rfl rfl (by simp) fun E hE => ?_
 refine WA ?_
 refine WR ?_
 refine al_ef rfl (ef_callm false (fun _ => next_a _ _ _ _ hs (by omega) (by omega) (by simp only [in64]; omega)) rfl .fn rfl (by decide) (by kernel_rfl) rfl rfl (fun _g => .cons (.p rfl) (.cons (.c rfl) .nil)) (fun _g => .cons (.c rfl) (.cons (.c rfl) .nil)) (by simp)) ?_
 rintro F1 H1 ⟨_, _, _, _, ⟨r, rfl, hq, hr1, hr2⟩, hF, hH⟩
 injection hq with hq1 hq2; subst hq1; subst hq2
 (refine NST hF hH ?_; clear hF hH; rintro rfl rfl)
 obtain ⟨i, rfl⟩ : ∃ i : Nat, r = i := ⟨r.toNat, by omega⟩
 have hk : i < vals.length := by have := hr2 (by rw [e1]; omega); rw [e1] at this; omega
 obtain ⟨z, hz0⟩ : ∃ z, vals[i]? = some z := ⟨_, List.getElem?_eq_getElem hk⟩
 have hrow : (vals.map fun z => [I z])[i]? = some [I z] := by rw [List.getElem?_map, hz0]; rfl
 refine ZA (rd_indexq rfl (KE (t := 22) rfl) rfl rfl (i := i) rfl hrow rfl) ?_
 refine WE ?_
 refine aret_1 [some 0] _ rfl rfl rfl (by decide) (ZNK rfl) ZCH ?_
 exact ⟨_, rfl, rfl, List.mem_of_getElem? hz0⟩
theorem odd_a (lo hi : Int) (v : Value) (zs : List Int) (a : Int) (hs : StrOk zs) (h0 : 0 ≤ a) (h1 : a ≤ 900000000) (h2 : -4000000000000000000 ≤ lo) (h3 : lo ≤ 4000000000000000000) (h4 : -4000000000000000000 ≤ hi) (h5 : hi ≤ 4000000000000000000) :
    ACalls Tryz.prog 54 [.p 0 0 0, .c (I lo), .c (I hi)] [strm v zs a] fun u H => ∃ r a', u = .c (I r) ∧ H = [strm v zs a'] ∧ a ≤ a' ∧ a' ≤ a + 2 ∧ in64 r := by
 refine acalls_of (N := 22) Tryz.func54 rfl rfl (by simp) fun E hE => ?_
 repeat' (first
  | (with_reducible refine aw_seq ?_) | (with_reducible refine aseq_n ?_) | (with_reducible refine aseq_r ?_) | (with_reducible refine ablk_n ?_) | (with_reducible refine ablk_r ?_) | (with_reducible refine ablk_e ?_) | (with_reducible refine ablk_o rfl ?_) | (with_reducible refine aseq_e ?_) | (with_reducible refine aw_skip ?_) | (with_reducible refine aw_block ?_) | (with_reducible refine aw_ret ?_) | (with_reducible refine aw_exit ?_)
  | refine aw_cond_t rfl ?_ | refine aw_cond_f rfl ?_ | refine aw_if_t rfl (by assumption) ?_ | refine aw_if_f rfl (by assumption) ?_ | refine aw_if rfl (fun _ => ?_) (fun _ => ?_) | refine aw_cond rfl (fun _ => ?_) (fun _ => ?_)
  | (refine aw_region (id := 1) ?_
     refine WO ?_
     refine al_ef rfl (ef_callm false (fun _ => flip_a 12 _ _ _ hs (by omega) (by omega) (by simp only [in64]; omega)) rfl .fn rfl (by decide) (by kernel_rfl) rfl rfl (fun _g => .cons (.p rfl) (.cons (.c rfl) .nil)) (fun _g => .cons (.c rfl) (.cons (.c rfl) .nil)) (by simp)) ?_
     rintro F1 H1 ⟨_, _, _, _, ⟨bb, rfl, hq⟩, hF, hH⟩
     injection hq with hq1 hq2; subst hq1; subst hq2
     (refine NST hF hH ?_; clear hF hH; rintro rfl rfl)
     refine WE ?_)
  | (refine aw_region (id := 2) ?_
     refine WO ?_
     refine al_ef rfl (ef_callm true (fun _ => pick_a [lo - 1, hi + 1, lo, hi, -1099511627776, 1099511627776] _ _ _ _ hs (by omega) (by omega) (by simp) (by simp)) rfl .fn rfl (by decide) (by kernel_rfl) rfl rfl (fun _g => .cons (.p rfl) (.cons (.frz rfl rfl rfl rfl rfl) .nil)) (fun _g => .cons (.c rfl) (.cons (.c rfl) .nil)) (fun _ _ _ _ ⟨_, hu, hH, _⟩ => by rw [hu, hH]; exact ⟨.c (.inl trivial), strm_flat (.inr ⟨0, _, rfl, by simp⟩)⟩)) ?_
     rintro F1 H1 ⟨_, _, _, _, ⟨rr, rfl, hq, hrm⟩, hF, hH⟩
     injection hq with hq1 hq2; subst hq1; subst hq2
     (refine NST hF hH ?_; clear hF hH; rintro rfl rfl)
     have h64r : in64 rr := by simp only [List.mem_cons, List.not_mem_nil, or_false] at hrm; simp only [in64] at *; omega
     clear hrm
     refine WE ?_)
  | (refine aw_region (id := 3) ?_
     refine WO ?_
     refine al_ef rfl (ef_callm false (fun _ => range_a lo hi _ _ _ hs (by omega) (by omega) (by omega) (by omega) (by omega) (by omega)) rfl .fn rfl (by decide) (by kernel_rfl) rfl rfl (fun _g => .cons (.p rfl) (.cons (.c rfl) (.cons (.c rfl) .nil))) (fun _g => .cons (.c rfl) (.cons (.c rfl) .nil)) (by simp)) ?_
     rintro F1 H1 ⟨_, _, _, _, ⟨rr, ar, rfl, hq, hr3, hr4, hr1, hr2, _⟩, hF, hH⟩
     injection hq with hq1 hq2; subst hq1; subst hq2
     (refine NST hF hH ?_; clear hF hH; rintro rfl rfl)
     have h64r : in64 rr := by simp only [in64]; omega
     refine WE ?_)
  | (refine aw_region ?_; refine WE ?_))
 all_goals (refine aret_1 [some 0] _ rfl rfl rfl (by decide) (ZNK rfl) ZCH ?_)
 all_goals exact ⟨_, _, rfl, rfl, by omega, by omega, by assumption⟩
end Go.Proofs.YtlblimbelfenaaaGreat

/- From a walk by value to a given statement: the argument, what is left as it was. -/
namespace Go.Proofs.YtlblimbelfenaaaGreat
open Go Go.ChangeShapes Go.WideShapes Go.ChangeAt Go.RowKit
set_option maxRecDepth 100000
theorem Tryz.own : ownKnob Tryz.prog.godebug = none := by kernel_rfl
theorem Tryz.cells3 : Tryz.prog.cellsOf 3 = 1 := by kernel_rfl
theorem Tryz.kids : Kids Tryz.prog (· < Tryz.prog.types.size) := kids_rows (by kernel_rfl) (by kernel_rfl)
theorem Tryz.full : ∀ t e, t < Tryz.prog.types.size → Tryz.prog.underlying t = some (.slice e) → 0 < Tryz.prog.cellsOf e := slices_full_of Tryz.prog (by kernel_rfl)

theorem arg_ints {H : Type} {enc : TypeId × Value → H} {W : World} {A : Option Addr} {len cap fuel : Nat} {x : DataW H × List MemPlace} (hf : DataW.trod enc Tryz.prog W 0 (fun _ => true) true fuel 22 (Value.cells (.slice A len cap)).toList = some x) :
    ∃ zs, StrOk zs ∧ Good W (fun b => b < W.heap.size) (.r (.slice A len cap) (zs.map fun z => [I z])) := by
 rcases open_ints Tryz.underlying22 Tryz.underlying3 Tryz.cells3 hf with ⟨hcs, -⟩ | ⟨a, len', cap', zs, hcs, -, hl, hm, hz, -, hcell, hwf⟩
 ·simp only [Value.cells, List.cons.injEq, Value.slice.injEq, and_true] at hcs
  obtain ⟨rfl, rfl, rfl⟩ := hcs
  exact ⟨[], ⟨fun _ h => (List.not_mem_nil h).elim, Nat.zero_le _⟩, .nil _ _⟩
 ·simp only [Value.cells, List.cons.injEq, Value.slice.injEq, and_true] at hcs
  obtain ⟨rfl, rfl, rfl⟩ := hcs
  simp only [if_true] at hz
  refine ⟨zs.take len, ⟨fun z hz' => ?_, ?_⟩, ?_⟩
  ·have := hwf z (List.mem_of_mem_take hz')
   simpa [Lit.wf, IntKind.min, IntKind.max, IntKind.signed, IntKind.bits, in64] using this
  ·unfold maxLen at hm; simp; omega
  ·rcases Nat.eq_zero_or_pos len with h0 | hp
   ·subst h0
    rw [List.take_zero]
    exact .nil _ _
   ·obtain ⟨gb, go, gs⟩ := a
    have hgs : gs = none := by simpa [Addr.add] using World.cell?_spot (hcell 0 (by omega))
    subst hgs
    have hlt : gb < W.heap.size := by
     have h := hcell 0 (by omega)
     rw [add_plain] at h
     rcases Nat.lt_or_ge gb W.heap.size with h1 | h1
     ·exact h1
     ·simp [World.cell?, h1] at h
    refine .r _ gb go 1 len cap (by simp; omega) hl hlt (fun row hr => ?_) (fun k j row u hk hj => ?_) (fun row hr u hu => ?_)
    ·obtain ⟨z, -, rfl⟩ := List.mem_map.1 hr; rfl
    ·rw [List.getElem?_map] at hk
     cases hz' : (zs.take len)[k]? with
     | none => rw [hz'] at hk; cases hk
     | some z =>
      rw [hz'] at hk
      simp only [Option.map_some, Option.some.injEq] at hk
      subst hk
      have hk2 : k < len := by
       have := (List.getElem?_eq_some_iff.1 hz').1
       simp at this; omega
      have hzk : zs[k]? = some z := by rw [List.getElem?_take, if_pos hk2] at hz'; exact hz'
      have h := hcell k (by omega)
      rw [add_plain, List.getD, hzk] at h
      match j, hj with
      | 0, hj =>
       simp only [List.getElem?_cons_zero, Option.some.injEq] at hj
       subst hj
       simpa [CV.den] using h
      | j + 1, hj => simp at hj
    ·obtain ⟨z, -, rfl⟩ := List.mem_map.1 hr
     simp only [List.mem_singleton] at hu
     subst hu
     exact .s _
theorem rh_none (W : World) : RH W (fun b => b < W.heap.size) [] [] :=
 ⟨rfl, fun i _ _ h => by simp [atB] at h, fun i _ h => by simp [atB] at h, fun i _ h => by simp [atB] at h, fun _ h => h, fun i _ h => by simp at h⟩
theorem stp_below {W W' : World} (h : Stp W W' (fun B => ∃ i, atB ([] : List (Option Nat)) i = some B)) : ∀ b, b < W.heap.size → W'.heap[b]? = W.heap[b]? := fun b hb => h.block b hb (fun ⟨i, hi⟩ => by simp [atB] at hi)
theorem kept_all {W W' : World} {may : MemPlace → Prop} (h : Stp W W' (fun B => ∃ i, atB ([] : List (Option Nat)) i = some B)) : W.keptBut W' may := by
 refine ⟨h.os, h.output, fun i hi => ?_⟩
 rw [stp_below h i hi]
 cases W.heap[i]? with
 | none => rfl
 | some o =>
  cases o with
  | cells c t fr => exact ⟨rfl, rfl, rfl, fun _ _ => rfl⟩
  | map es clock => exact .inr ⟨rfl, rfl⟩
  | _ => rfl
theorem same_all {W W' : World} (h : Stp W W' (fun B => ∃ i, atB ([] : List (Option Nat)) i = some B)) {p : MemPlace} (hp : p.block < W.heap.size) : W.sameAt W' p := by
 have hb := stp_below h p.block hp
 cases p with
 | cell b off =>
  simp only [World.sameAt]
  exact World.cell?_of_block hb
 | map b => exact hb
end Go.Proofs.YtlblimbelfenaaaGreat

/- Plain law: meshes by their numbers; their faults, boxes, heights, levels and adaptive tops. -/
namespace Go.Proofs.YtlblimbelfenaaaGreat
structure Vec3 where
 x : Int
 y : Int
 z : Int
deriving DecidableEq
structure Fac3 where
 a : Int
 b : Int
 c : Int
deriving DecidableEq
structure Sid2 where
 f : Int
 t : Int
deriving DecidableEq
def vx (V : List Vec3) (i : Int) : Vec3 := V.getD i.toNat ⟨0, 0, 0⟩
def sub3 (a b : Vec3) : Vec3 := ⟨a.x - b.x, a.y - b.y, a.z - b.z⟩
def crs (a b : Vec3) : Vec3 := ⟨a.y * b.z - a.z * b.y, a.z * b.x - a.x * b.z, a.x * b.y - a.y * b.x⟩
def nrm (V : List Vec3) (f : Fac3) : Vec3 := crs (sub3 (vx V f.b) (vx V f.a)) (sub3 (vx V f.c) (vx V f.a))
def farI (n : Int) : Bool := decide (n < -100000) || decide (100000 < n)
def farV (v : Vec3) : Bool := farI v.x || farI v.y || farI v.z
def outI (V : List Vec3) (i : Int) : Bool := decide (i < 0) || decide ((V.length : Int) ≤ i)
def ffR (V : List Vec3) (f : Fac3) : Int := if (outI V f.a || outI V f.b || outI V f.c) = true then 8 else if nrm V f = ⟨0, 0, 0⟩ then 3 else 0
def ffP (V : List Vec3) (f : Fac3) : Int := if (outI V f.a || outI V f.b || outI V f.c) = true then 8 else if f.a = f.b ∨ f.b = f.c ∨ f.c = f.a ∨ nrm V f = ⟨0, 0, 0⟩ then 3 else 0
theorem mul_self_sub (a b : Int) : a * b - b * a = 0 := by rw [Int.mul_comm]; omega
theorem ffP_R (V : List Vec3) (f : Fac3) : ffP V f = ffR V f := by
 unfold ffP ffR
 split
 ·rfl
 ·have h : (f.a = f.b ∨ f.b = f.c ∨ f.c = f.a ∨ nrm V f = ⟨0, 0, 0⟩) ↔ nrm V f = ⟨0, 0, 0⟩ := by
   refine ⟨fun h => ?_, fun h => .inr (.inr (.inr h))⟩
   rcases h with h | h | h | h
   ·simp only [nrm, sub3, crs, h, Int.sub_self, Int.zero_mul, Int.mul_zero]
   ·simp only [nrm, sub3, crs, h, mul_self_sub]
   ·simp only [nrm, sub3, crs, h, Int.sub_self, Int.zero_mul, Int.mul_zero]
   ·exact h
  simp only [h]
def sds (f : Fac3) : List Sid2 := [⟨f.a, f.b⟩, ⟨f.b, f.c⟩, ⟨f.c, f.a⟩]
def dupS : List Sid2 → List Sid2 → Bool
 | _, [] => false
 | acc, s :: l => acc.contains s || dupS (acc ++ [s]) l
def fst0 : List Int → Int
 | [] => 0
 | e :: l => if e = 0 then fst0 l else e
def mshF (V : List Vec3) (F : List Fac3) : Int :=
 if F = [] then 8 else if 1000 < V.length ∨ 1000 < F.length then 2 else if V.any farV = true then 1 else
 if fst0 (F.map (ffR V)) ≠ 0 then fst0 (F.map (ffR V)) else if dupS [] (F.flatMap sds) = true then 6 else 0
theorem fst0_app : ∀ (a b : List Int), fst0 (a ++ b) = if fst0 a = 0 then fst0 b else fst0 a
 | [], b => by simp [fst0]
 | e :: a, b => by
  simp only [List.cons_append, fst0]
  split
  ·exact fst0_app a b
  ·rename_i h; simp [h]
theorem fst0_zero : ∀ {l : List Int}, fst0 l = 0 → ∀ e ∈ l, e = 0
 | [], _, e, h => by cases h
 | x :: l, h, e, he => by
  unfold fst0 at h
  split at h
  ·rcases List.mem_cons.1 he with rfl | he
   ·assumption
   ·exact fst0_zero h e he
  ·contradiction
structure MOk (V : List Vec3) (F : List Fac3) : Prop where
 ne : F ≠ []
 lv : V.length ≤ 1000
 lf : F.length ≤ 1000
 far : ∀ v ∈ V, farV v = false
 face : ∀ f ∈ F, ffR V f = 0
 dup : dupS [] (F.flatMap sds) = false
theorem mok_of {V : List Vec3} {F : List Fac3} (h : mshF V F = 0) : MOk V F := by
 unfold mshF at h
 split at h
 ·cases h
 ·rename_i h1
  split at h
  ·cases h
  ·rename_i h2
   split at h
   ·cases h
   ·rename_i h3
    split at h
    ·rename_i h4; exact absurd h h4
    ·rename_i h4
     split at h
     ·cases h
     ·rename_i h5
      have h4' : fst0 (F.map (ffR V)) = 0 := by omega
      refine ⟨h1, by omega, by omega, fun v hv => ?_, fun f hf => fst0_zero h4' _ (List.mem_map.2 ⟨f, hf, rfl⟩), by simpa using h5⟩
      cases hq : farV v with
      | false => rfl
      | true => exact absurd (List.any_eq_true.2 ⟨v, hv, hq⟩) h3
theorem MOk.ix {V : List Vec3} {F : List Fac3} (h : MOk V F) {f : Fac3} (hf : f ∈ F) : (0 ≤ f.a ∧ f.a < V.length) ∧ (0 ≤ f.b ∧ f.b < V.length) ∧ (0 ≤ f.c ∧ f.c < V.length) := by
 have h1 := h.face f hf
 unfold ffR at h1
 split at h1
 ·cases h1
 ·rename_i h2
  simp only [outI, Bool.or_eq_true, decide_eq_true_eq] at h2
  omega
theorem vx_mem {V : List Vec3} {i : Int} (h0 : 0 ≤ i) (h : i < V.length) : vx V i ∈ V := by
 unfold vx
 have h1 : i.toNat < V.length := by omega
 rw [List.getD_eq_getElem?_getD, List.getElem?_eq_getElem h1]
 exact List.getElem_mem h1
def minL : List Int → Int
 | [] => 0
 | [x] => x
 | x :: y :: l => min x (minL (y :: l))
def maxL : List Int → Int
 | [] => 0
 | [x] => x
 | x :: y :: l => max x (maxL (y :: l))
theorem minL_le : ∀ {l : List Int} {x : Int}, x ∈ l → minL l ≤ x
 | [y], x, h => by rw [List.mem_singleton.1 h]; exact Int.le_refl _
 | y :: z :: l, x, h => by
  unfold minL
  rcases List.mem_cons.1 h with rfl | h
  ·omega
  ·have := minL_le h; omega
theorem le_maxL : ∀ {l : List Int} {x : Int}, x ∈ l → x ≤ maxL l
 | [y], x, h => by rw [List.mem_singleton.1 h]; exact Int.le_refl _
 | y :: z :: l, x, h => by
  unfold maxL
  rcases List.mem_cons.1 h with rfl | h
  ·omega
  ·have := le_maxL h; omega
theorem minL_mem : ∀ {l : List Int}, l ≠ [] → minL l ∈ l
 | [y], _ => by simp [minL]
 | y :: z :: l, _ => by
  have := minL_mem (l := z :: l) (by simp)
  unfold minL
  rcases Int.le_total y (minL (z :: l)) with h | h
  ·rw [show min y (minL (z :: l)) = y by omega]; exact List.mem_cons_self
  ·rw [show min y (minL (z :: l)) = minL (z :: l) by omega]; exact List.mem_cons_of_mem _ this
theorem maxL_mem : ∀ {l : List Int}, l ≠ [] → maxL l ∈ l
 | [y], _ => by simp [maxL]
 | y :: z :: l, _ => by
  have := maxL_mem (l := z :: l) (by simp)
  unfold maxL
  rcases Int.le_total y (maxL (z :: l)) with h | h
  ·rw [show max y (maxL (z :: l)) = maxL (z :: l) by omega]; exact List.mem_cons_of_mem _ this
  ·rw [show max y (maxL (z :: l)) = y by omega]; exact List.mem_cons_self
theorem minL_is {l : List Int} {m : Int} (h : m ∈ l) (hm : ∀ x ∈ l, m ≤ x) : minL l = m := by
 have h1 := minL_le h
 have h2 := hm _ (minL_mem (fun e => by rw [e] at h; cases h))
 omega
theorem maxL_is {l : List Int} {m : Int} (h : m ∈ l) (hm : ∀ x ∈ l, x ≤ m) : maxL l = m := by
 have h1 := le_maxL h
 have h2 := hm _ (maxL_mem (fun e => by rw [e] at h; cases h))
 omega
def fzs (V : List Vec3) (f : Fac3) : List Int := [(vx V f.a).z, (vx V f.b).z, (vx V f.c).z]
def zs (V : List Vec3) (F : List Fac3) : List Int := F.flatMap (fzs V)
theorem dupS_app : ∀ (a b acc : List Sid2), dupS acc (a ++ b) = (dupS acc a || dupS (acc ++ a) b)
 | [], b, acc => by simp [dupS]
 | s :: a, b, acc => by
  simp only [List.cons_append, dupS]
  rw [dupS_app a b (acc ++ [s]), Bool.or_assoc, List.append_assoc]
  rfl
theorem dupS_snoc {l : List Sid2} {s : Sid2} (h : dupS [] l = false) : dupS [] (l ++ [s]) = l.contains s := by
 rw [dupS_app, h]; simp [dupS]
theorem dupS_hit {l r : List Sid2} {s : Sid2} (h : l.contains s = true) : dupS [] (l ++ s :: r) = true := by
 rw [dupS_app, List.nil_append]
 simp only [dupS, h, Bool.true_or, Bool.or_true]
theorem sd_split {F : List Fac3} {k : Nat} {f : Fac3} (h : F[k]? = some f) (j : Nat) : F.flatMap sds = (F.take k).flatMap sds ++ (sds f).take j ++ ((sds f).drop j ++ (F.drop (k + 1)).flatMap sds) := by
 have hk : k < F.length := by
  rcases Nat.lt_or_ge k F.length with h' | h'
  ·exact h'
  ·rw [List.getElem?_eq_none h'] at h; cases h
 have e : F = F.take k ++ f :: F.drop (k + 1) := by
  rw [List.getElem?_eq_getElem hk] at h
  injection h with h
  rw [← h, List.getElem_cons_drop, List.take_append_drop]
 conv => lhs; rw [e]
 rw [List.flatMap_append, List.flatMap_cons, List.append_assoc, ← List.append_assoc (List.take j (sds f)), List.take_append_drop]
theorem sd_next {F : List Fac3} {k : Nat} {f : Fac3} (h : F[k]? = some f) : (F.take (k + 1)).flatMap sds = (F.take k).flatMap sds ++ sds f := by
 rw [List.take_add_one, h, List.flatMap_append]; simp
theorem fst0_at {l : List Int} {k : Nat} {e : Int} (h0 : fst0 (l.take k) = 0) (h : l[k]? = some e) (he : e ≠ 0) : fst0 l = e := by
 have hk : k < l.length := by
  rcases Nat.lt_or_ge k l.length with h' | h'
  ·exact h'
  ·rw [List.getElem?_eq_none h'] at h; cases h
 rw [List.getElem?_eq_getElem hk] at h
 injection h with h
 conv => lhs; rw [← List.take_append_drop k l, ← List.getElem_cons_drop (h := hk), h]
 rw [fst0_app, if_pos h0, fst0, if_neg he]
theorem fst0_next {l : List Int} {k : Nat} {e : Int} (h0 : fst0 (l.take k) = 0) (h : l[k]? = some e) (he : e = 0) : fst0 (l.take (k + 1)) = 0 := by
 rw [List.take_add_one, h, fst0_app, if_pos h0]; simp [fst0, he]

theorem minL_snoc {l : List Int} {x : Int} (h : l ≠ []) : minL (l ++ [x]) = min (minL l) x := by
 refine minL_is ?_ fun y hy => ?_
 ·rcases Int.le_total (minL l) x with h1 | h1
  ·rw [show min (minL l) x = minL l by omega]; exact List.mem_append_left _ (minL_mem h)
  ·rw [show min (minL l) x = x by omega]; simp
 ·rcases List.mem_append.1 hy with hy | hy
  ·have := minL_le hy; omega
  ·rw [List.mem_singleton.1 hy]; omega
theorem maxL_snoc {l : List Int} {x : Int} (h : l ≠ []) : maxL (l ++ [x]) = max (maxL l) x := by
 refine maxL_is ?_ fun y hy => ?_
 ·rcases Int.le_total (maxL l) x with h1 | h1
  ·rw [show max (maxL l) x = x by omega]; simp
  ·rw [show max (maxL l) x = maxL l by omega]; exact List.mem_append_left _ (maxL_mem h)
 ·rcases List.mem_append.1 hy with hy | hy
  ·have := le_maxL hy; omega
  ·rw [List.mem_singleton.1 hy]; omega
structure Slnt where
 low : Int
 high : Int
 most : Int
def topsA (T : Int → Int) (hi : Int) : Nat → Int → List Int
 | 0, _ => []
 | n + 1, z => if z < hi then min hi (z + T z) :: topsA T hi n (min hi (z + T z)) else []
def tops (T : Int → Int) (hi z : Int) : List Int := topsA T hi (hi - z).toNat z
end Go.Proofs.YtlblimbelfenaaaGreat
