/- The reference's last status, runs and absolute forms, by value. -/
import Derived.Test.YtpbedckdnoogpaaRc
import Derived.Test.YtpbedckdnoogpaaPvl
set_option linter.unusedSimpArgs false
set_option linter.unusedVariables false
namespace Go.Proofs.Ytpbedckdnoogpaa
open Go Go.RowKit
set_option maxRecDepth 100000
def lastS (l : List Step) : Mach := l.foldl afterS Mach.zero
def runsS (l : List Step) : List Mach := (List.range l.length).map fun i => lastS (l.take (i + 1))
theorem drop_cons {α : Type} {l : List α} {k : Nat} {s : α} (h : l[k]? = some s) : l.drop k = s :: l.drop (k + 1) := by
  obtain ⟨hk, hs⟩ := List.getElem?_eq_some_iff.1 h
  rw [List.drop_eq_getElem_cons hk, hs]
theorem qlast_a (l : List Step) (v : Value) (hl : l.length ≤ 1000000000) (hok : ∀ s ∈ l, s.ok) : ACalls Try.prog 21 [.c (prog_r v l)] [] fun u H => u = .a ((lastS l).row.map .c) ∧ H = [] := by
  have e1 : (l.map Step.row).length = l.length := by simp
  refine acalls_of (N := 17) Try.func21 rfl rfl (by simp) fun E hE => ?_
  refine WA ?_
  refine WA ?_
  refine WA ?_
  refine aw_loopw (fun n F H => ∃ (k : Nat) (m : Mach), n + k = l.length ∧ (l.drop k).foldl afterS m = lastS l ∧ F = [(2, .p 0 0 0), (3, .p 1 0 0), (6, .c (prog_r v l)), (7, .c (I (l.map Step.row).length)), (8, .c (I k))] ∧ H = [.box (Mach.zero.row.map .c), .box (m.row.map .c)]) ?_ ?_
  · refine wk_of [some 0, some 1] (fun _ => [(2, .p 0 0 0), (3, .p 1 0 0), (6, .c (prog_r v l)), (7, .c (I (l.map Step.row).length)), (8, .c (I (0 : Nat)))]) (fun _ => _) (by decide) (ZNL hE) ZCF ZCH (fun _ => ?_)
    exact ⟨l.length, 0, Mach.zero, by omega, rfl, rfl, rfl⟩
  rintro n F H ⟨k, m, hk, hf, rfl, rfl⟩
  refine WA ?_
  refine aw_if rfl (fun hlt => ?_) (fun hge => ?_)
  · obtain ⟨s, hs⟩ : ∃ s, l[k]? = some s := ⟨_, List.getElem?_eq_getElem (by omega)⟩
    have hrow : (l.map Step.row)[k]? = some s.row := by rw [List.getElem?_map, hs]; rfl
    have hso := hok s (List.mem_of_getElem? hs)
    refine WA ?_
    refine WR ?_
    refine al_ef rfl (ef_call0 false (fun _ => qafter_a m s hso) rfl .fn rfl (by decide) (by kernel_rfl) rfl (fun _ => C0 rfl) (by simp)) ?_
    rintro _ _ ⟨_, _, _, ⟨rfl, rfl⟩, hF, hH⟩
    (try simp only [nsl, Nat.reduceAdd, Nat.reduceLT, Nat.reduceSub] at hF); (try simp only [nsl, Nat.reduceAdd, Nat.reduceLT, Nat.reduceSub] at hH); subst hF; subst hH
    refine WE ?_
    refine WA ?_
    refine wk_of [some 0, some 1] (fun _ => [(2, .p 0 0 0), (3, .p 1 0 0), (6, .c (prog_r v l)), (7, .c (I (l.map Step.row).length)), (8, .c (I (k + 1 : Nat)))]) (fun _ => _) (by decide) (ZNL hE) ZCF ZCH (fun _ => ?_)
    exact ⟨n - 1, by omega, k + 1, afterS m s, by omega, by rw [← hf, drop_cons hs]; rfl, rfl, rfl⟩
  refine WA ?_
  refine aret_a [] _ rfl (KK (t := 42) rfl) rfl (Cells.box rfl) (by simp) (by (try simp only [nm, putL, Nat.reduceAdd, cellsOf, cvOf]) <;> rfl) (by decide) (ZNK rfl) (fun _ => C0 rfl) (fun _ => .nil) ⟨?_, rfl⟩
  rw [List.drop_eq_nil_of_le (by omega)] at hf
  rw [← hf]; rfl
theorem runs_next (l : List Step) (k : Nat) : (List.range (k + 1)).map (fun i => lastS (l.take (i + 1))) = (List.range k).map (fun i => lastS (l.take (i + 1))) ++ [lastS (l.take (k + 1))] := by
  rw [List.range_succ, List.map_append]; rfl
theorem qruns_a (l : List Step) (v : Value) (hl : l.length ≤ 1000000) (hok : ∀ s ∈ l, s.ok) : ACalls Try.prog 20 [.c (prog_r v l)] [] fun u H => ∃ v', u = .c (.r v' ((runsS l).map Mach.row)) ∧ H = [] := by
  have e1 : (l.map Step.row).length = l.length := by simp
  refine acalls_of (N := 20) Try.func20 rfl rfl (by simp) fun E hE => ?_
  refine WA ?_
  refine WA ?_
  refine WA ?_
  refine aw_loopw (fun n F H => ∃ (k c : Nat), n + k = l.length ∧ F = [(0, .c (prog_r v l)), (3, .o 0 0 k c), (6, .c (I (l.map Step.row).length)), (7, .c (I k))] ∧ H = [.arr 42 8 c (((List.range k).map fun i => lastS (l.take (i + 1))).map Mach.row)]) ?_ ?_
  · refine wk_of [none] (fun _ => [(0, .c (prog_r v l)), (3, .o 0 0 0 0), (6, .c (I (l.map Step.row).length)), (7, .c (I (0 : Nat)))]) (fun _ => [.arr 42 8 0 []]) (by decide) (ZNL hE) ZCF ZCH (fun _ => ?_)
    exact ⟨l.length, 0, 0, by omega, rfl, rfl⟩
  rintro n F H ⟨k, c, hk, rfl, rfl⟩
  refine WA ?_
  refine aw_if rfl (fun hlt => ?_) (fun hge => ?_)
  · refine WA ?_
    refine ZR ?_
    iterate 4 refine WX1 ?_
    refine ZA (rd_slicer (l := 0) (h := k + 1) rfl (KE (t := 26) rfl) rfl (by intro row hr; obtain ⟨s, -, rfl⟩ := List.mem_map.1 hr; rfl) (.inl ⟨rfl, rfl⟩) (.inr ⟨_, _, _, rfl, rfl, by omega⟩) (by omega) (by omega)) ?_
    refine al_ef rfl (ef_call0 false (fun _ => qlast_a (l.take (k + 1)) (subV v 0 (k + 1) 6) (by simp; omega) (fun s hs => hok s (List.mem_of_mem_take hs))) rfl .fn rfl (by decide) (by kernel_rfl) rfl (fun _g => .cons (.c (by simp)) .nil) (by simp)) ?_
    rintro _ _ ⟨_, _, _, ⟨rfl, rfl⟩, hF, hH⟩
    (try simp only [nsl, Nat.reduceAdd, Nat.reduceLT, Nat.reduceSub] at hF); (try simp only [nsl, Nat.reduceAdd, Nat.reduceLT, Nat.reduceSub] at hH); subst hF; subst hH
    refine WO ?_
    refine al_ef rfl (Zapp (KA (t := 38) rfl)) ?_
    rintro _ _ ⟨_, cc, hcc, rfl, rfl⟩
    refine WE ?_
    refine WA ?_
    refine wk_of [some 0] (fun _ => [(0, .c (prog_r v l)), (3, .o 0 0 (k + 1) cc), (6, .c (I (l.map Step.row).length)), (7, .c (I (k + 1 : Nat)))]) (fun _ => _) (by decide) (ZNL hE) ZCF ZCH (fun _ => ?_)
    exact ⟨n - 1, by omega, k + 1, cc, by omega, rfl, by rw [runs_next]; simp⟩
  refine WA ?_
  exact aret_f1 [] [] rfl rfl rfl rfl (by rw [show k = l.length from by omega, List.drop_zero, List.take_of_length_le (by simp)]; rfl) (by simp [runsS]; omega) (by decide) (by decide) (ZNK rfl) (fun _ => .nil) (fun v' => ⟨v', rfl, rfl⟩)
def absStep (m : Mach) (s : Step) : Step :=
  if s.k = 3 ∨ s.k = 4 then { s with x := m.x, y := m.y } else if s.k = 5 then { s with z := m.z } else s
def absFrom : Mach → List Step → List Step
  | _, [] => []
  | m, s :: l => if s.k = 1 ∨ s.k = 2 then absFrom (afterS m s) l else absStep (afterS m s) s :: absFrom (afterS m s) l
def absS (l : List Step) : List Step := absFrom Mach.zero l
theorem absFrom_len : ∀ (l : List Step) (m : Mach), (absFrom m l).length ≤ l.length
  | [], _ => Nat.le_refl _
  | s :: l, m => by
    unfold absFrom
    split
    · have := absFrom_len l (afterS m s); simp; omega
    · have := absFrom_len l (afterS m s); simp; omega
theorem qabs_a (l : List Step) (v : Value) (hl : l.length ≤ 1000000) (hok : ∀ s ∈ l, s.ok) : ACalls Try.prog 90 [.c (prog_r v l)] [] fun u H => ∃ v', u = .c (prog_r v' (absS l)) ∧ H = [] := by
  have e1 : (l.map Step.row).length = l.length := by simp
  refine acalls_of (N := 41) Try.func90 rfl rfl (by simp) fun E hE => ?_
  refine WA ?_
  refine WA ?_
  refine WA ?_
  refine WA ?_
  refine aw_loopw (fun n F H => ∃ (k c : Nat) (m : Mach) (out : List Step), n + k = l.length ∧ out.length ≤ k ∧ out ++ absFrom m (l.drop k) = absS l ∧ F = [(3, .o 0 0 out.length c), (4, .p 1 0 0), (7, .c (prog_r v l)), (8, .c (I (l.map Step.row).length)), (9, .c (I k))] ∧ H = [.arr 36 6 c (out.map Step.row), .box (m.row.map .c)]) ?_ ?_
  · refine wk_of [none, some 0] (fun _ => [(3, .o 0 0 0 0), (4, .p 1 0 0), (7, .c (prog_r v l)), (8, .c (I (l.map Step.row).length)), (9, .c (I (0 : Nat)))]) (fun _ => [.arr 36 6 0 [], .box (Mach.zero.row.map .c)]) (by decide) (ZNL hE) ZCF ZCH (fun _ => ?_)
    exact ⟨l.length, 0, 0, Mach.zero, [], by omega, by simp, rfl, rfl, rfl⟩
  rintro n F H ⟨k, c, m, out, hk, hol, hf, rfl, rfl⟩
  refine WA ?_
  refine aw_if rfl (fun hlt => ?_) (fun hge => ?_)
  · obtain ⟨s, hs⟩ : ∃ s, l[k]? = some s := ⟨_, List.getElem?_eq_getElem (by omega)⟩
    have hrow : (l.map Step.row)[k]? = some s.row := by rw [List.getElem?_map, hs]; rfl
    have hso := hok s (List.mem_of_getElem? hs)
    rw [drop_cons hs] at hf
    refine WA ?_
    refine WR ?_
    refine al_ef rfl (ef_call0 false (fun _ => qafter_a m s hso) rfl .fn rfl (by decide) (by kernel_rfl) rfl (fun _ => C0 rfl) (by simp)) ?_
    rintro _ _ ⟨_, _, _, ⟨rfl, rfl⟩, hF, hH⟩
    (try simp only [nsl, Nat.reduceAdd, Nat.reduceLT, Nat.reduceSub] at hF); (try simp only [nsl, Nat.reduceAdd, Nat.reduceLT, Nat.reduceSub] at hH); subst hF; subst hH
    refine WE ?_
    refine WA ?_
    repeat' (first
      | (with_reducible refine aw_seq ?_) | (with_reducible refine aseq_n ?_) | (with_reducible refine aseq_r ?_) | (with_reducible refine ablk_n ?_) | (with_reducible refine ablk_r ?_) | (with_reducible refine ablk_e ?_) | (with_reducible refine ablk_o rfl ?_) | (with_reducible refine aseq_e ?_) | (with_reducible refine aw_skip ?_) | (with_reducible refine aw_block ?_) | (with_reducible refine aw_ret ?_) | (with_reducible refine aw_exit ?_)
      | refine aw_cond_t rfl ?_ | refine aw_cond_f rfl ?_ | refine aw_if_t rfl (by assumption) ?_ | refine aw_if_f rfl (by assumption) ?_ | refine aw_if rfl (fun _ => ?_) (fun _ => ?_) | refine aw_cond rfl (fun _ => ?_) (fun _ => ?_)
      | (refine aw_region (id := 0) ?_
         refine WE ?_)
      | (refine aw_region (id := 1) ?_
         refine WE ?_)
      | (refine aw_region (id := 2) ?_
         refine WE ?_)
      | (refine aw_region (id := 3) ?_
         refine WE ?_)
      | (refine aw_region (id := 8) ?_
         refine WE ?_)
      | (refine aw_region (id := 9) ?_
         refine WE ?_)
      | (refine aw_region (id := 10) ?_
         refine WE ?_)
      | (refine aw_region (id := 11) ?_
         refine WE ?_)
      | (refine aw_regionT (id := 12) [(0, none), (1, none), (2, none), (3, none), (4, none), (5, some [2, 3]), (6, none), (7, some [])] hMixed (by kernel_rfl) ?_
         refine WQ ?_)
      | (refine aw_region (id := 13) ?_
         refine WE ?_)
      | (refine aw_region (id := 14) ?_
         refine WE ?_)
      | (refine aw_region (id := 15) ?_
         refine WO ?_
         refine al_ef rfl (Zapp (KA (t := 26) rfl)) ?_
         rintro _ _ ⟨_, cc, hcc, rfl, rfl⟩
         refine WE ?_)
      | (refine aw_region (id := 16) ?_
         refine WE ?_))
    all_goals try (exfalso; omega)
    all_goals first
      | refine wk_of [some 0, some 1] (fun _ => [(3, .o 0 0 out.length c), (4, .p 1 0 0), (7, .c (prog_r v l)), (8, .c (I (l.map Step.row).length)), (9, .c (I (k + 1 : Nat)))]) (fun _ => _) (by decide) (ZNL hE) ZCF ZCH (fun _ => ⟨n - 1, by omega, k + 1, c, afterS m s, out, by omega, by omega, ?_, rfl, rfl⟩)
      | refine wk_of [some 0, some 1] (fun _ => [(3, .o 0 0 (out ++ [absStep (afterS m s) s]).length _), (4, .p 1 0 0), (7, .c (prog_r v l)), (8, .c (I (l.map Step.row).length)), (9, .c (I (k + 1 : Nat)))]) (fun _ => [.arr 36 6 _ ((out ++ [absStep (afterS m s) s]).map Step.row), .box ((afterS m s).row.map .c)]) (by decide) (ZNL hE) ZCF (fun _g => .arr rfl (by simp [absStep, *]) (.box rfl (.cons (.c rfl) (.cons (.c rfl) (.cons (.c rfl) (.cons (.c rfl) (.cons (.c rfl) (.cons (.c rfl) (.cons (.c rfl) (.cons (.c rfl) .nil)))))))) .nil)) (fun _ => ⟨n - 1, by omega, k + 1, cc, afterS m s, out ++ [absStep (afterS m s) s], by omega, by simp; omega, ?_, rfl, rfl⟩)
    all_goals (rw [← hf, absFrom]; simp [*])
  refine WA ?_
  exact aret_f1 [] [] rfl rfl rfl rfl (by rw [List.drop_zero, List.take_of_length_le (by simp)]) (by simp) (by decide) (by decide) (ZNK rfl) (fun _ => .nil) (fun v' => ⟨v', by rw [← hf, List.drop_eq_nil_of_le (by omega), absFrom, List.append_nil], rfl⟩)
end Go.Proofs.Ytpbedckdnoogpaa
