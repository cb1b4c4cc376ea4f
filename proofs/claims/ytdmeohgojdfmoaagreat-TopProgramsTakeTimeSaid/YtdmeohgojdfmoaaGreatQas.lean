/- The program's status after a step, by value. -/
import Derived.Test.YtdmeohgojdfmoaaGreatQar
import Derived.Test.YtdmeohgojdfmoaaGreatRows
import Derived.ProofKit
import Derived.ReadAgain
import Derived.ChangeSlices
import Derived.ChangeStays
import Derived.JoinedOf
import Derived.Test.YtdmeohgojdfmoaaGreatQan
set_option linter.unusedSimpArgs false
set_option linter.unusedVariables false
/- The stream of raw numbers, in the logic over values: each of its functions gives some value within its range and moves its counter on. -/
namespace Go.Proofs.YtdmeohgojdfmoaaGreat
open Go Go.RowKit
set_option maxRecDepth 100000
abbrev I (n : Int) : CV := .s (.int .i64 n)
abbrev B (b : Bool) : CV := .s (.bool b)
def in64 (n : Int) : Prop := -9223372036854775808 ≤ n ∧ n ≤ 9223372036854775807
def belowF (x n : Int) : Int := if n < 1 then 0 else if Int.tmod x n < 0 then wrap64 (Int.tmod x n + n) else Int.tmod x n
theorem belowF_range (x n : Int) (hn : in64 n) : 0 ≤ belowF x n ∧ (1 ≤ n → belowF x n < n) := by
  unfold belowF
  by_cases h : n < 1
  · rw [if_pos h]; omega
  · rw [if_neg h]
    have hl : Int.tmod x n < n := Int.tmod_lt_of_pos x (by omega)
    have hg : -n < Int.tmod x n := Int.lt_tmod_of_pos x (by omega)
    unfold in64 at hn
    split
    · rw [IntWalk.wrap64_in _ (by constructor <;> omega)]; omega
    · omega
theorem below_a (x n : Int) : ACalls Tryz.prog 28 [.c (I x), .c (I n)] [] fun u H => u = .c (I (belowF x n)) ∧ H = [] := by
  refine acalls_of (N := 16) Tryz.func28 rfl rfl (by simp) fun E hE => ?_
  repeat' (first
    | (with_reducible refine aw_seq ?_) | (with_reducible refine aseq_n ?_) | (with_reducible refine aseq_r ?_) | (with_reducible refine ablk_n ?_) | (with_reducible refine ablk_r ?_) | (with_reducible refine ablk_e ?_) | (with_reducible refine ablk_o rfl ?_) | (with_reducible refine aseq_e ?_) | (with_reducible refine aw_skip ?_) | (with_reducible refine aw_block ?_) | (with_reducible refine aw_ret ?_) | (with_reducible refine aw_exit ?_)
    | refine aw_cond_t rfl ?_ | refine aw_cond_f rfl ?_ | refine aw_if_t rfl (by assumption) ?_ | refine aw_if_f rfl (by assumption) ?_ | refine aw_if rfl (fun _ => ?_) (fun _ => ?_) | refine aw_cond rfl (fun _ => ?_) (fun _ => ?_)
    | (refine aw_region ?_; refine WE ?_))
  all_goals (refine aret_1 [] _ rfl rfl rfl (by decide) (ZNK rfl) (fun _ => .nil) ?_)
  all_goals (refine ⟨congrArg (fun z => AV.c (I z)) ?_, rfl⟩; unfold belowF; simp [*]; try omega)

/-- The stream: its numbers, its counter. -/
abbrev strm (v : Value) (zs : List Int) (a : Int) : OB := .box [.c (.r v (zs.map fun z => [I z])), .c (I a)]
theorem strm_flat {K : CV → Prop} {v : Value} {zs : List Int} {a : Int} (h : K (.r v (zs.map fun z => [I z]))) : ∀ o ∈ [strm v zs a], FlatO K o := fun o ho => by
  rw [List.mem_singleton.1 ho]
  intro x hx
  simp only [List.mem_cons, List.not_mem_nil, or_false] at hx
  rcases hx with rfl | rfl
  · exact .c (.inr h)
  · exact .c (.inl trivial)
structure StrOk (zs : List Int) : Prop where
  ok : ∀ z ∈ zs, in64 z
  len : zs.length ≤ 9223372036854775807

theorem next_a (n : Int) (v : Value) (zs : List Int) (a : Int) (hs : StrOk zs) (h0 : 0 ≤ a) (h1 : a ≤ 1000000000) (hn : in64 n) :
    ACalls Tryz.prog 13 [.p 0 0 0, .c (I n)] [strm v zs a] fun u H => ∃ r : Int, u = .c (I r) ∧ H = [strm v zs (a + 1)] ∧ 0 ≤ r ∧ (1 ≤ n → r < n) := by
  refine acalls_of (N := 64) Tryz.func13 rfl rfl (by simp) fun E hE => ?_
  unfold in64 at hn
  have hl := hs.len
  by_cases he : zs.length = 0
  · have h00 : zs = [] := List.eq_nil_of_length_eq_zero he
    subst h00
    repeat' (first
      | (with_reducible refine aw_seq ?_) | (with_reducible refine aseq_n ?_) | (with_reducible refine aseq_r ?_) | (with_reducible refine ablk_n ?_) | (with_reducible refine ablk_r ?_) | (with_reducible refine ablk_e ?_) | (with_reducible refine ablk_o rfl ?_) | (with_reducible refine aseq_e ?_) | (with_reducible refine aw_skip ?_) | (with_reducible refine aw_block ?_) | (with_reducible refine aw_ret ?_) | (with_reducible refine aw_exit ?_)
      | refine aw_cond_t rfl ?_ | refine aw_cond_f rfl ?_ | refine aw_if_t rfl (by assumption) ?_ | refine aw_if_f rfl (by assumption) ?_ | refine aw_if rfl (fun _ => ?_) (fun _ => ?_) | refine aw_cond rfl (fun _ => ?_) (fun _ => ?_)
      | (refine aw_region (id := 3) ?_
         refine WO ?_
         refine al_ef rfl (ef_call0 false (fun _ => below_a _ _) rfl .fn rfl (by decide) (by kernel_rfl) rfl (fun _g => .cons (.c rfl) (.cons (.c rfl) .nil)) (by simp)) ?_
         rintro _ _ ⟨_, _, _, ⟨rfl, rfl⟩, rfl, rfl⟩
         refine WE ?_)
      | (refine aw_regionT (id := 4) [(0, none), (1, none), (2, none), (3, none), (4, none), (5, none), (6, none), (7, none), (8, none), (9, none), (10, none), (11, none)] hMixed (by kernel_rfl) ?_
         refine WQ ?_)
      | (refine aw_regionT (id := 5) [(0, none), (1, none), (2, none), (3, none), (4, none), (5, none), (6, none), (7, none), (8, none), (9, none), (10, none), (11, none)] hMixed (by kernel_rfl) ?_
         refine WQ ?_)
      | (refine aw_region ?_; refine WE ?_))
    all_goals (refine aret_1 [some 0] _ rfl rfl rfl (by decide) (ZNK rfl) ZCH ?_)
    all_goals exact ⟨_, rfl, rfl, belowF_range _ n hn⟩
  · have hp : 0 < zs.length := by omega
    refine WA ?_
    refine WA ?_
    refine WA ?_
    refine aw_if_f rfl (by simpa using he) ?_
    have e1 : (zs.map fun z => [I z]).length = zs.length := by simp
    have hq : ((zs.map fun z => [I z]).length : Int) = zs.length := by rw [e1]
    have hmod : 0 ≤ a % (zs.length : Int) := Int.emod_nonneg _ (by omega)
    have hmod2 : a % (zs.length : Int) < zs.length := Int.emod_lt_of_pos _ (by omega)
    refine ZZ ?_
    refine aw_regionT [(0, none), (1, none), (2, none), (3, none), (4, none), (5, none), (6, none), (7, none), (8, none), (9, none), (10, none), (11, none)] hMixed (by kernel_rfl) ?_
    refine WQ ?_
    refine ZZ ?_
    refine aw_regionT [(0, none), (1, none), (2, none), (3, none), (4, none), (5, none), (6, none), (7, none), (8, none), (9, none), (10, none), (11, none)] hMixed (by kernel_rfl) ?_
    refine WQ ?_
    obtain ⟨i, hi⟩ : ∃ i : Nat, a % (zs.length : Int) = i := ⟨(a % (zs.length : Int)).toNat, by omega⟩
    have hk : i < zs.length := by omega
    obtain ⟨z, hz0⟩ : ∃ z, zs[i]? = some z := ⟨_, List.getElem?_eq_getElem hk⟩
    have hrow : (zs.map fun z => [I z])[i]? = some [I z] := by rw [List.getElem?_map, hz0]; rfl
    refine ZR ?_
    iterate 5 refine WX1 ?_
    refine ZA (rd_indexq rfl (KE (t := 22) rfl) rfl rfl (i := i) (by rw [e1, show a + 1 - 1 = a from by omega]; exact hi) hrow rfl) ?_
    refine WO ?_
    refine al_ef rfl (ef_call0 false (fun _ => below_a _ _) rfl .fn rfl (by decide) (by kernel_rfl) rfl (fun _g => .cons (.c rfl) (.cons (.c rfl) .nil)) (by simp)) ?_
    rintro _ _ ⟨_, _, _, ⟨rfl, rfl⟩, rfl, rfl⟩
    refine WO ?_
    refine al_ef rfl (ef_call0 false (fun _ => below_a _ _) rfl .fn rfl (by decide) (by kernel_rfl) rfl (fun _g => .cons (.c rfl) (.cons (.c rfl) .nil)) (by simp)) ?_
    rintro _ _ ⟨_, _, _, ⟨rfl, rfl⟩, rfl, rfl⟩
    refine WE ?_
    all_goals (refine aret_1 [some 0] _ rfl rfl rfl (by decide) (ZNK rfl) ZCH ?_)
    all_goals exact ⟨_, rfl, rfl, belowF_range _ n hn⟩
theorem flip_a (n : Int) (v : Value) (zs : List Int) (a : Int) (hs : StrOk zs) (h0 : 0 ≤ a) (h1 : a ≤ 1000000000) (hn : in64 n) :
    ACalls Tryz.prog 10 [.p 0 0 0, .c (I n)] [strm v zs a] fun u H => ∃ b : Bool, u = .c (B b) ∧ H = [strm v zs (a + 1)] := by
  unfold in64 at hn
  refine acalls_of (N := 9) Tryz.func10 rfl rfl (by simp) fun E hE => ?_
  repeat' (first
    | (with_reducible refine aw_seq ?_) | (with_reducible refine aseq_n ?_) | (with_reducible refine aseq_r ?_) | (with_reducible refine ablk_n ?_) | (with_reducible refine ablk_r ?_) | (with_reducible refine ablk_e ?_) | (with_reducible refine ablk_o rfl ?_) | (with_reducible refine aseq_e ?_) | (with_reducible refine aw_skip ?_) | (with_reducible refine aw_block ?_) | (with_reducible refine aw_ret ?_) | (with_reducible refine aw_exit ?_)
    | refine aw_cond_t rfl ?_ | refine aw_cond_f rfl ?_ | refine aw_if_t rfl (by assumption) ?_ | refine aw_if_f rfl (by assumption) ?_ | refine aw_if rfl (fun _ => ?_) (fun _ => ?_) | refine aw_cond rfl (fun _ => ?_) (fun _ => ?_)
    | (refine aw_region (id := 1) ?_
       refine WO ?_
       refine al_ef rfl (ef_callm false (fun _ => next_a _ _ _ _ hs (by omega) (by omega) (by simp only [in64]; omega)) rfl .fn rfl (by decide) (by kernel_rfl) rfl rfl (fun _g => .cons (.p rfl) (.cons (.c rfl) .nil)) (fun _g => .cons (.c rfl) (.cons (.c rfl) .nil)) (by simp)) ?_
       rintro F1 H1 ⟨_, _, _, _, ⟨r, rfl, hq, hr1, hr2⟩, hF, hH⟩
       injection hq with hq1 hq2; subst hq1; subst hq2
       (try simp only [nsl, Nat.reduceAdd, Nat.reduceLT, Nat.reduceSub] at hF); (try simp only [nsl, Nat.reduceAdd, Nat.reduceLT, Nat.reduceSub] at hH); subst hF; subst hH
       refine WE ?_)
    | (refine aw_region ?_; refine WE ?_))
  all_goals (refine aret_1 [some 0] _ rfl rfl rfl (by decide) (ZNK rfl) ZCH ?_)
  all_goals exact ⟨_, rfl, rfl⟩
theorem range_a (lo hi : Int) (v : Value) (zs : List Int) (a : Int) (hs : StrOk zs) (h0 : 0 ≤ a) (h1 : a ≤ 1000000000) (h2 : -4000000000000000000 ≤ lo) (h3 : lo ≤ 4000000000000000000) (h4 : -4000000000000000000 ≤ hi) (h5 : hi ≤ 4000000000000000000) :
    ACalls Tryz.prog 11 [.p 0 0 0, .c (I lo), .c (I hi)] [strm v zs a] fun u H => ∃ r a', u = .c (I r) ∧ H = [strm v zs a'] ∧ a ≤ a' ∧ a' ≤ a + 1 ∧ lo ≤ r ∧ (lo ≤ hi → r ≤ hi) ∧ (hi < lo → r = lo) := by
  refine acalls_of (N := 19) Tryz.func11 rfl rfl (by simp) fun E hE => ?_
  repeat' (first
    | (with_reducible refine aw_seq ?_) | (with_reducible refine aseq_n ?_) | (with_reducible refine aseq_r ?_) | (with_reducible refine ablk_n ?_) | (with_reducible refine ablk_r ?_) | (with_reducible refine ablk_e ?_) | (with_reducible refine ablk_o rfl ?_) | (with_reducible refine aseq_e ?_) | (with_reducible refine aw_skip ?_) | (with_reducible refine aw_block ?_) | (with_reducible refine aw_ret ?_) | (with_reducible refine aw_exit ?_)
    | refine aw_cond_t rfl ?_ | refine aw_cond_f rfl ?_ | refine aw_if_t rfl (by assumption) ?_ | refine aw_if_f rfl (by assumption) ?_ | refine aw_if rfl (fun _ => ?_) (fun _ => ?_) | refine aw_cond rfl (fun _ => ?_) (fun _ => ?_)
    | (refine aw_region (id := 3) ?_
       refine WO ?_
       refine al_ef rfl (ef_callm false (fun _ => next_a _ _ _ _ hs (by omega) (by omega) (by simp only [in64]; omega)) rfl .fn rfl (by decide) (by kernel_rfl) rfl rfl (fun _g => .cons (.p rfl) (.cons (.c rfl) .nil)) (fun _g => .cons (.c rfl) (.cons (.c rfl) .nil)) (by simp)) ?_
       rintro F1 H1 ⟨_, _, _, _, ⟨r, rfl, hq, hr1, hr2⟩, hF, hH⟩
       injection hq with hq1 hq2; subst hq1; subst hq2
       (try simp only [nsl, Nat.reduceAdd, Nat.reduceLT, Nat.reduceSub] at hF); (try simp only [nsl, Nat.reduceAdd, Nat.reduceLT, Nat.reduceSub] at hH); subst hF; subst hH
       refine WE ?_)
    | (refine aw_region ?_; refine WE ?_))
  all_goals (refine aret_1 [some 0] _ rfl rfl rfl (by decide) (ZNK rfl) ZCH ?_)
  all_goals exact ⟨_, _, rfl, rfl, by omega, by omega, by omega, by omega, by omega⟩
theorem pick_a (vals : List Int) (q v : Value) (zs : List Int) (a : Int) (hs : StrOk zs) (h0 : 0 ≤ a) (h1 : a ≤ 1000000000) (hv : vals ≠ []) (hl : vals.length ≤ 1000000) :
    ACalls Tryz.prog 12 [.p 0 0 0, .c (.r q (vals.map fun z => [I z]))] [strm v zs a] fun u H => ∃ r, u = .c (I r) ∧ H = [strm v zs (a + 1)] ∧ r ∈ vals := by
  have hp : 0 < vals.length := List.length_pos_iff.2 hv
  have e1 : (vals.map fun z => [I z]).length = vals.length := by simp
  refine acalls_of (N := 12) Tryz.func12 rfl rfl (by simp) fun E hE => ?_
  refine WA ?_
  refine WR ?_
  refine al_ef rfl (ef_callm false (fun _ => next_a _ _ _ _ hs (by omega) (by omega) (by simp only [in64]; omega)) rfl .fn rfl (by decide) (by kernel_rfl) rfl rfl (fun _g => .cons (.p rfl) (.cons (.c rfl) .nil)) (fun _g => .cons (.c rfl) (.cons (.c rfl) .nil)) (by simp)) ?_
  rintro F1 H1 ⟨_, _, _, _, ⟨r, rfl, hq, hr1, hr2⟩, hF, hH⟩
  injection hq with hq1 hq2; subst hq1; subst hq2
  (try simp only [nsl, Nat.reduceAdd, Nat.reduceLT, Nat.reduceSub] at hF); (try simp only [nsl, Nat.reduceAdd, Nat.reduceLT, Nat.reduceSub] at hH); subst hF; subst hH
  obtain ⟨i, rfl⟩ : ∃ i : Nat, r = i := ⟨r.toNat, by omega⟩
  have hk : i < vals.length := by have := hr2 (by rw [e1]; omega); rw [e1] at this; omega
  obtain ⟨z, hz0⟩ : ∃ z, vals[i]? = some z := ⟨_, List.getElem?_eq_getElem hk⟩
  have hrow : (vals.map fun z => [I z])[i]? = some [I z] := by rw [List.getElem?_map, hz0]; rfl
  refine ZA (rd_indexq rfl (KE (t := 22) rfl) rfl rfl (i := i) rfl hrow rfl) ?_
  refine WE ?_
  refine aret_1 [some 0] _ rfl rfl rfl (by decide) (ZNK rfl) ZCH ?_
  exact ⟨_, rfl, rfl, List.mem_of_getElem? hz0⟩
theorem z64 : in64 0 := by unfold in64; omega
end Go.Proofs.YtdmeohgojdfmoaaGreat

/- From a walk by value to a given statement: the argument, what is left as it was. -/
namespace Go.Proofs.YtdmeohgojdfmoaaGreat
open Go Go.ChangeShapes Go.WideShapes Go.ChangeAt Go.RowKit
set_option maxRecDepth 100000
theorem Tryz.own : ownKnob Tryz.prog.godebug = none := by kernel_rfl
theorem Tryz.cells3 : Tryz.prog.cellsOf 3 = 1 := by kernel_rfl
theorem Tryz.kids : Kids Tryz.prog (· < Tryz.prog.types.size) := kids_rows (by kernel_rfl) (by kernel_rfl)
theorem Tryz.full : ∀ t e, t < Tryz.prog.types.size → Tryz.prog.underlying t = some (.slice e) → 0 < Tryz.prog.cellsOf e := slices_full_of Tryz.prog (by kernel_rfl)

/-- An argument that is a slice of integers, as the logic has it. -/
theorem arg_ints {H : Type} {enc : TypeId × Value → H} {W : World} {A : Option Addr} {len cap fuel : Nat} {x : DataW H × List MemPlace} (hf : DataW.trod enc Tryz.prog W 0 (fun _ => true) true fuel 22 (Value.cells (.slice A len cap)).toList = some x) :
    ∃ zs, StrOk zs ∧ Good W (fun b => b < W.heap.size) (.r (.slice A len cap) (zs.map fun z => [I z])) := by
  rcases open_ints Tryz.underlying22 Tryz.underlying3 Tryz.cells3 hf with ⟨hcs, -⟩ | ⟨a, len', cap', zs, hcs, -, hl, hm, hz, -, hcell, hwf⟩
  · simp only [Value.cells, List.cons.injEq, Value.slice.injEq, and_true] at hcs
    obtain ⟨rfl, rfl, rfl⟩ := hcs
    exact ⟨[], ⟨fun _ h => (List.not_mem_nil h).elim, Nat.zero_le _⟩, .nil _ _⟩
  · simp only [Value.cells, List.cons.injEq, Value.slice.injEq, and_true] at hcs
    obtain ⟨rfl, rfl, rfl⟩ := hcs
    simp only [if_true] at hz
    refine ⟨zs.take len, ⟨fun z hz' => ?_, ?_⟩, ?_⟩
    · have := hwf z (List.mem_of_mem_take hz')
      simpa [Lit.wf, IntKind.min, IntKind.max, IntKind.signed, IntKind.bits, in64] using this
    · unfold maxLen at hm; simp; omega
    · rcases Nat.eq_zero_or_pos len with h0 | hp
      · subst h0
        rw [List.take_zero]
        exact .nil _ _
      · obtain ⟨gb, go, gs⟩ := a
        have hgs : gs = none := by simpa [Addr.add] using World.cell?_spot (hcell 0 (by omega))
        subst hgs
        have hlt : gb < W.heap.size := by
          have h := hcell 0 (by omega)
          rw [add_plain] at h
          rcases Nat.lt_or_ge gb W.heap.size with h1 | h1
          · exact h1
          · simp [World.cell?, h1] at h
        refine .r _ gb go 1 len cap (by simp; omega) hl hlt (fun row hr => ?_) (fun k j row u hk hj => ?_) (fun row hr u hu => ?_)
        · obtain ⟨z, -, rfl⟩ := List.mem_map.1 hr; rfl
        · rw [List.getElem?_map] at hk
          cases hz' : (zs.take len)[k]? with
          | none => rw [hz'] at hk; cases hk
          | some z =>
            rw [hz'] at hk
            simp only [Option.map_some, Option.some.injEq] at hk
            subst hk
            have hk2 : k < len := by
              have := (List.getElem?_eq_some_iff.1 hz').1
              simp at this; omega
            have hzk : zs[k]? = some z := by rw [List.getElem?_take, if_pos hk2] at hz'; exact hz'
            have h := hcell k (by omega)
            rw [add_plain, List.getD, hzk] at h
            match j, hj with
            | 0, hj =>
              simp only [List.getElem?_cons_zero, Option.some.injEq] at hj
              subst hj
              simpa [CV.den] using h
            | j + 1, hj => simp at hj
        · obtain ⟨z, -, rfl⟩ := List.mem_map.1 hr
          simp only [List.mem_singleton] at hu
          subst hu
          exact .s _
theorem rh_none (W : World) : RH W (fun b => b < W.heap.size) [] [] :=
  ⟨rfl, fun i _ _ h => by simp [atB] at h, fun i _ h => by simp [atB] at h, fun i _ h => by simp [atB] at h, fun _ h => h, fun i _ h => by simp at h⟩
/-- Behind a call that wrote into no block that was there. -/
theorem stp_below {W W' : World} (h : Stp W W' (fun B => ∃ i, atB ([] : List (Option Nat)) i = some B)) : ∀ b, b < W.heap.size → W'.heap[b]? = W.heap[b]? := fun b hb => h.block b hb (fun ⟨i, hi⟩ => by simp [atB] at hi)
theorem kept_all {W W' : World} {may : MemPlace → Prop} (h : Stp W W' (fun B => ∃ i, atB ([] : List (Option Nat)) i = some B)) : W.keptBut W' may := by
  refine ⟨h.os, h.output, fun i hi => ?_⟩
  rw [stp_below h i hi]
  cases W.heap[i]? with
  | none => rfl
  | some o =>
    cases o with
    | cells c t fr => exact ⟨rfl, rfl, rfl, fun _ _ => rfl⟩
    | map es clock => exact .inr ⟨rfl, rfl⟩
    | _ => rfl
theorem same_all {W W' : World} (h : Stp W W' (fun B => ∃ i, atB ([] : List (Option Nat)) i = some B)) {p : MemPlace} (hp : p.block < W.heap.size) : W.sameAt W' p := by
  have hb := stp_below h p.block hp
  cases p with
  | cell b off =>
    simp only [World.sameAt]
    exact World.cell?_of_block hb
  | map b => exact hb
end Go.Proofs.YtdmeohgojdfmoaaGreat

/- The stream's steps and programs. -/
namespace Go.Proofs.YtdmeohgojdfmoaaGreat
open Go Go.RowKit
set_option maxRecDepth 100000
structure Step where
  k : Int
  x : Int
  y : Int
  z : Int
  f : Int
  n : Int
abbrev Step.row (s : Step) : List CV := [I s.k, I s.x, I s.y, I s.z, I s.f, I s.n]
def Step.ok (s : Step) : Prop := in64 s.k ∧ in64 s.x ∧ in64 s.y ∧ in64 s.z ∧ in64 s.f ∧ in64 s.n

end Go.Proofs.YtdmeohgojdfmoaaGreat

/- The reference's faults of steps, by value. -/
namespace Go.Proofs.YtdmeohgojdfmoaaGreat
open Go Go.RowKit
set_option maxRecDepth 100000
/-- The error of a step. -/
def faultS (s : Step) : Int :=
  if s.k < 1 ∨ 9 < s.k then 4
  else if ¬ (-200000 ≤ s.x ∧ s.x ≤ 200000 ∧ -200000 ≤ s.y ∧ s.y ≤ 200000 ∧ -1000000 ≤ s.z ∧ s.z ≤ 1000000 ∧ 0 ≤ s.f ∧ s.f ≤ 100000000) then 1
  else if (s.k = 6 ∧ ¬ (1 ≤ s.n ∧ s.n ≤ 100000)) ∨ (s.k = 7 ∧ ¬ (0 ≤ s.n ∧ s.n ≤ 10000000)) ∨ (s.k = 8 ∧ ¬ (0 ≤ s.n ∧ s.n ≤ 500)) ∨ (s.k = 9 ∧ ¬ (0 ≤ s.n ∧ s.n ≤ 9)) then 1
  else if (s.k ≠ 3 ∧ s.k ≠ 4 ∧ ¬ (s.x = 0 ∧ s.y = 0)) ∨ (s.k ≠ 4 ∧ s.f ≠ 0) ∨ (s.k ≠ 5 ∧ s.z ≠ 0) ∨ (s.k < 6 ∧ s.n ≠ 0) then 3
  else 0
end Go.Proofs.YtdmeohgojdfmoaaGreat

/- The reference's faults of programs, its statuses, by value. -/
namespace Go.Proofs.YtdmeohgojdfmoaaGreat
open Go Go.RowKit
set_option maxRecDepth 100000
def firstF : List Step → Int
  | [] => 0
  | s :: l => if faultS s = 0 then firstF l else faultS s
/-- The error of a program. -/
def progF (l : List Step) : Int := if 5000 < l.length then 2 else firstF l
theorem firstF_drop {l : List Step} {k : Nat} {s : Step} (h : l[k]? = some s) : firstF (l.drop k) = if faultS s = 0 then firstF (l.drop (k + 1)) else faultS s := by
  obtain ⟨hk, hs⟩ := List.getElem?_eq_some_iff.1 h
  rw [List.drop_eq_getElem_cons hk, hs]; rfl
abbrev prog_r (v : Value) (l : List Step) : CV := .r v (l.map Step.row)
end Go.Proofs.YtdmeohgojdfmoaaGreat

/- The reference's status after a step, by value. -/
namespace Go.Proofs.YtdmeohgojdfmoaaGreat
open Go Go.RowKit
set_option maxRecDepth 100000
structure Mach where
  x : Int
  y : Int
  z : Int
  sp : Int
  he : Int
  tl : Int
  fl : Int
  rel : Bool
abbrev Mach.row (m : Mach) : List CV := [I m.x, I m.y, I m.z, I m.sp, I m.he, I m.tl, I m.fl, B m.rel]
abbrev Mach.zero : Mach := ⟨0, 0, 0, 0, 0, 0, 0, false⟩
def relS (r : Bool) (a b : Int) : Int := if r = true then wrap64 (a + b) else b
/-- The status after a step. -/
def afterS (m : Mach) (s : Step) : Mach :=
  if s.k = 1 then { m with rel := false }
  else if s.k = 2 then { m with rel := true }
  else if s.k = 3 ∨ s.k = 4 then { m with x := relS m.rel m.x s.x, y := relS m.rel m.y s.y, fl := wrap64 (m.fl + s.f) }
  else if s.k = 5 then { m with z := relS m.rel m.z s.z }
  else if s.k = 6 then { m with sp := s.n }
  else if s.k = 8 then { m with he := s.n }
  else if s.k = 9 then { m with tl := s.n }
  else m
end Go.Proofs.YtdmeohgojdfmoaaGreat

/- The reference's last status, runs and absolute forms, by value. -/
namespace Go.Proofs.YtdmeohgojdfmoaaGreat
open Go Go.RowKit
set_option maxRecDepth 100000
def lastS (l : List Step) : Mach := l.foldl afterS Mach.zero
def runsS (l : List Step) : List Mach := (List.range l.length).map fun i => lastS (l.take (i + 1))
theorem drop_cons {α : Type} {l : List α} {k : Nat} {s : α} (h : l[k]? = some s) : l.drop k = s :: l.drop (k + 1) := by
  obtain ⟨hk, hs⟩ := List.getElem?_eq_some_iff.1 h
  rw [List.drop_eq_getElem_cons hk, hs]
theorem runs_next (l : List Step) (k : Nat) : (List.range (k + 1)).map (fun i => lastS (l.take (i + 1))) = (List.range k).map (fun i => lastS (l.take (i + 1))) ++ [lastS (l.take (k + 1))] := by
  rw [List.range_succ, List.map_append]; rfl
def absStep (m : Mach) (s : Step) : Step :=
  if s.k = 3 ∨ s.k = 4 then { s with x := m.x, y := m.y } else if s.k = 5 then { s with z := m.z } else s
def absFrom : Mach → List Step → List Step
  | _, [] => []
  | m, s :: l => if s.k = 1 ∨ s.k = 2 then absFrom (afterS m s) l else absStep (afterS m s) s :: absFrom (afterS m s) l
def absS (l : List Step) : List Step := absFrom Mach.zero l
theorem absFrom_len : ∀ (l : List Step) (m : Mach), (absFrom m l).length ≤ l.length
  | [], _ => Nat.le_refl _
  | s :: l, m => by
    unfold absFrom
    split
    · have := absFrom_len l (afterS m s); simp; omega
    · have := absFrom_len l (afterS m s); simp; omega
end Go.Proofs.YtdmeohgojdfmoaaGreat

/- The reference's absolute forms and moments, by value. -/
namespace Go.Proofs.YtdmeohgojdfmoaaGreat
open Go Go.RowKit
set_option maxRecDepth 100000
/-- A status with a wait. -/
structure Wt where
  m : Mach
  t : Int
abbrev Wt.row (d : Wt) : List CV := [I d.m.x, I d.m.y, I d.m.z, I d.m.sp, I d.m.he, I d.m.tl, I d.m.fl, B d.m.rel, I d.t]
structure MSt where
  out : List Wt
  now : Mach
  wait : Int
abbrev Mach.abs (m : Mach) : Mach := ⟨m.x, m.y, m.z, m.sp, m.he, m.tl, m.fl, false⟩
def waitS (wait : Int) (s : Step) : Int := if s.k = 7 then wrap64 (wait + s.n) else wait
def Mach.eq (a b : Mach) : Prop := a.x = b.x ∧ a.y = b.y ∧ a.z = b.z ∧ a.sp = b.sp ∧ a.he = b.he ∧ a.tl = b.tl ∧ a.fl = b.fl ∧ a.rel = b.rel
instance (a b : Mach) : Decidable (a.eq b) := by unfold Mach.eq; infer_instance
theorem Mach.eq_iff {a b : Mach} : a.eq b ↔ a = b := by
  obtain ⟨a1, a2, a3, a4, a5, a6, a7, a8⟩ := a
  obtain ⟨b1, b2, b3, b4, b5, b6, b7, b8⟩ := b
  simp [Mach.eq]
def stepMS (st : MSt) (s : Step) (is : Mach) : MSt :=
  if is.abs.eq st.now then ⟨st.out, st.now, waitS st.wait s⟩ else ⟨st.out ++ [⟨is.abs, waitS st.wait s⟩], is.abs, 0⟩
def momS (l : List Step) : Nat → MSt
  | 0 => ⟨[], Mach.zero, 0⟩
  | k + 1 => match l[k]? with
    | some s => stepMS (momS l k) s (lastS (l.take (k + 1)))
    | none => momS l k
theorem momS_succ {l : List Step} {k : Nat} {s : Step} (h : l[k]? = some s) : momS l (k + 1) = stepMS (momS l k) s (lastS (l.take (k + 1))) := by
  simp only [momS, h]
end Go.Proofs.YtdmeohgojdfmoaaGreat

/- slices.Equal, by value. -/
namespace Go.Proofs.YtdmeohgojdfmoaaGreat
open Go Go.RowKit
set_option maxRecDepth 100000
theorem wt_eq {a b : Wt} : (a.m.x = b.m.x ∧ a.m.y = b.m.y ∧ a.m.z = b.m.z ∧ a.m.sp = b.m.sp ∧ a.m.he = b.m.he ∧ a.m.tl = b.m.tl ∧ a.m.fl = b.m.fl ∧ a.m.rel = b.m.rel ∧ a.t = b.t) ↔ a = b := by
  obtain ⟨⟨a1, a2, a3, a4, a5, a6, a7, a8⟩, a9⟩ := a
  obtain ⟨⟨b1, b2, b3, b4, b5, b6, b7, b8⟩, b9⟩ := b
  simp [and_assoc]
theorem step_eq {a b : Step} : (a.k = b.k ∧ a.x = b.x ∧ a.y = b.y ∧ a.z = b.z ∧ a.f = b.f ∧ a.n = b.n) ↔ a = b := by
  obtain ⟨a1, a2, a3, a4, a5, a6⟩ := a
  obtain ⟨b1, b2, b3, b4, b5, b6⟩ := b
  simp
theorem take_next {α : Type} {l : List α} {k : Nat} {s : α} (h : l[k]? = some s) : l.take (k + 1) = l.take k ++ [s] := by
  rw [List.take_add_one, h]; rfl
end Go.Proofs.YtdmeohgojdfmoaaGreat

/- The program's status after a step, by value. -/
namespace Go.Proofs.YtdmeohgojdfmoaaGreat
open Go Go.RowKit
set_option maxRecDepth 100000
set_option maxHeartbeats 4000000 in
theorem after_a (m : Mach) (s : Step) (hs : s.ok) : ACalls Tryz.prog 41 [.a (m.row.map .c), .a (s.row.map .c)] [] fun u H => u = .a ((afterS m s).row.map .c) ∧ H = [] := by
  obtain ⟨mx, my, mz, msp, mhe, mtl, mfl, mrel⟩ := m
  obtain ⟨k, x, y, z, f, n⟩ := s
  clear hs
  refine acalls_of (N := 69) Tryz.func41 rfl rfl (by simp) fun E hE => ?_
  refine WA ?_
  refine WR ?_
  refine al_nil ?_
  refine aseq_n ?_
  refine aw_cut (fun F H => ∃ bx bz by_ : Int, bx = relS mrel mx x ∧ by_ = relS mrel my y ∧ bz = relS mrel mz z ∧ F = [(2, .p 0 0 0), (3, .p 1 0 0), (4, .p 2 0 0)] ∧ H = [.box ((⟨mx, my, mz, msp, mhe, mtl, mfl, mrel⟩ : Mach).row.map .c), .box ((⟨k, bx, by_, bz, f, n⟩ : Step).row.map .c), .box (Mach.zero.row.map .c)]) ?_ ?_ wk_aw
  · refine aw_cond rfl (fun h => ?_) (fun h => ?_)
    · refine ZZ ?_
      refine aw_regionT [(0, none), (1, none), (2, none), (3, none), (4, none), (5, none), (6, none), (7, none), (8, none), (9, none), (10, none), (11, none), (12, none), (13, none), (14, none), (15, none), (16, some [7, 8, 9, 12, 13, 14]), (17, none), (18, some [12, 13, 14]), (19, none), (20, some [])] hMixed (by kernel_rfl) ?_
      refine WQ ?_
      all_goals refine wk_of [some 0, some 1, some 2] (fun _ => [(2, .p 0 0 0), (3, .p 1 0 0), (4, .p 2 0 0)]) (fun _ => _) (by decide) (ZNL hE) ZCF ZCH (fun _ => ?_)
      all_goals exact ⟨_, _, _, by simp only [relS, h, if_true]; rw [Int.add_comm], by simp only [relS, h, if_true]; rw [Int.add_comm], by simp only [relS, h, if_true]; rw [Int.add_comm], rfl, rfl⟩
    · refine ZZ ?_
      refine wk_of [some 0, some 1, some 2] (fun _ => [(2, .p 0 0 0), (3, .p 1 0 0), (4, .p 2 0 0)]) (fun _ => _) (by decide) (ZNL hE) ZCF ZCH (fun _ => ?_)
      exact ⟨_, _, _, by simp [relS, h], by simp [relS, h], by simp [relS, h], rfl, rfl⟩
  · rintro F H ⟨bx, bz, by_, hbx, hby, hbz, rfl, rfl⟩
    repeat' (first
      | (with_reducible refine aw_seq ?_) | (with_reducible refine aseq_n ?_) | (with_reducible refine aseq_r ?_) | (with_reducible refine ablk_n ?_) | (with_reducible refine ablk_r ?_) | (with_reducible refine ablk_e ?_) | (with_reducible refine ablk_o rfl ?_) | (with_reducible refine aseq_e ?_) | (with_reducible refine aw_skip ?_) | (with_reducible refine aw_block ?_) | (with_reducible refine aw_ret ?_) | (with_reducible refine aw_exit ?_)
      | refine aw_cond_t rfl ?_ | refine aw_cond_f rfl ?_ | refine aw_if_t rfl (by assumption) ?_ | refine aw_if_f rfl (by assumption) ?_ | refine aw_if rfl (fun _ => ?_) (fun _ => ?_) | refine aw_cond rfl (fun _ => ?_) (fun _ => ?_)
      | (refine aw_region (id := 0) ?_
         refine WE ?_)
      | (refine aw_region (id := 1) ?_
         refine WE ?_)
      | (refine aw_region (id := 3) ?_
         refine WE ?_)
      | (refine aw_region (id := 4) ?_
         refine WE ?_)
      | (refine aw_region (id := 5) ?_
         refine WE ?_)
      | (refine aw_region (id := 6) ?_
         refine WE ?_)
      | (refine aw_region (id := 7) ?_
         refine WE ?_)
      | (refine aw_region (id := 8) ?_
         refine WE ?_)
      | (refine aw_region (id := 9) ?_
         refine WE ?_)
      | (refine aw_regionT (id := 10) [(0, none), (1, none), (2, none), (3, none), (4, none), (5, some [2, 3]), (6, none), (7, some [])] hMixed (by kernel_rfl) ?_
         refine WQ ?_)
      | (refine aw_region (id := 11) ?_
         refine WE ?_)
      | (refine aw_region (id := 12) ?_
         refine WE ?_)
      | (refine aw_region (id := 13) ?_
         refine WE ?_)
      | (refine aw_region (id := 14) ?_
         refine WE ?_)
      | (refine aw_region (id := 15) ?_
         refine WE ?_)
      | (refine aw_region (id := 16) ?_
         refine WE ?_)
      | (refine aw_region (id := 17) ?_
         refine WE ?_)
      | (refine aw_region (id := 18) ?_
         refine WE ?_)
      | (refine aw_region (id := 19) ?_
         refine WE ?_)
      | (refine aw_region (id := 20) ?_
         refine WE ?_))
    all_goals (refine aret_a [] _ rfl (KK (t := 71) rfl) rfl (Cells.box rfl) (by simp) (by (try simp only [nm, putL, Nat.reduceAdd, cellsOf, cvOf]) <;> rfl) (by decide) (ZNK rfl) (fun _ => C0 rfl) (fun _ => .nil) ⟨?_, rfl⟩)
    all_goals (clear hE; subst hbx hby hbz; try dsimp only at *)
    all_goals first
      | (exfalso; omega)
      | simp [afterS, *]
end Go.Proofs.YtdmeohgojdfmoaaGreat
