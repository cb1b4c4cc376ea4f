/- The reference's faults of programs, its statuses, by value. -/
import Derived.Test.YtdmeohgojdfmoaaGreatDoorRa
set_option linter.unusedSimpArgs false
set_option linter.unusedVariables false
namespace Go.Proofs.YtdmeohgojdfmoaaGreatDoor
open Go Go.RowKit
set_option maxRecDepth 100000
def firstF : List Step → Int
  | [] => 0
  | s :: l => if faultS s = 0 then firstF l else faultS s
/-- The error of a program. -/
def progF (l : List Step) : Int := if 5000 < l.length then 2 else firstF l
theorem firstF_drop {l : List Step} {k : Nat} {s : Step} (h : l[k]? = some s) : firstF (l.drop k) = if faultS s = 0 then firstF (l.drop (k + 1)) else faultS s := by
  obtain ⟨hk, hs⟩ := List.getElem?_eq_some_iff.1 h
  rw [List.drop_eq_getElem_cons hk, hs]; rfl
abbrev prog_r (v : Value) (l : List Step) : CV := .r v (l.map Step.row)
theorem qsteps_a (l : List Step) (v : Value) (hl : l.length ≤ 1000000000) : ACalls Tryz.prog 89 [.c (prog_r v l)] [] fun u H => u = .c (I (progF l)) ∧ H = [] := by
  have e1 : (l.map Step.row).length = l.length := by simp
  refine acalls_of (N := 21) Tryz.func89 rfl rfl (by simp) fun E hE => ?_
  refine WA ?_
  refine WA ?_
  refine aw_if rfl (fun hbig => ?_) (fun hbig => ?_)
  · refine WA ?_
    refine aret_1 [] _ rfl rfl rfl (by decide) (ZNK rfl) (fun _ => .nil) ⟨?_, rfl⟩
    rw [progF, if_pos (by omega)]
  refine ZZ ?_
  refine WA ?_
  refine aw_loopw (fun m F H => ∃ (k : Nat), m + k = l.length ∧ firstF (l.drop k) = firstF l ∧ F = [(9, .c (prog_r v l)), (10, .c (I (l.map Step.row).length)), (11, .c (I k))] ∧ H = []) ?_ ?_
  · refine wk_of [] (fun _ => [(9, .c (prog_r v l)), (10, .c (I (l.map Step.row).length)), (11, .c (I (0 : Nat)))]) (fun _ => _) (by decide) (ZNL hE) ZCF (fun _ => .nil) (fun _ => ?_)
    exact ⟨l.length, 0, by omega, rfl, rfl, rfl⟩
  rintro m F H ⟨k, hk, hf, rfl, rfl⟩
  refine WA ?_
  refine aw_if rfl (fun hlt => ?_) (fun hge => ?_)
  · obtain ⟨s, hs⟩ : ∃ s, l[k]? = some s := ⟨_, List.getElem?_eq_getElem (by omega)⟩
    have hrow : (l.map Step.row)[k]? = some s.row := by rw [List.getElem?_map, hs]; rfl
    have hfd := firstF_drop hs
    refine WA ?_
    refine WR ?_
    refine al_ef rfl (ef_call0 false (fun _ => qfault_a s) rfl .fn rfl (by decide) (by kernel_rfl) rfl (fun _ => C0 rfl) (by simp)) ?_
    rintro _ _ ⟨_, _, _, ⟨rfl, rfl⟩, hF, hH⟩
    (try simp only [nsl, Nat.reduceAdd, Nat.reduceLT, Nat.reduceSub] at hF); (try simp only [nsl, Nat.reduceAdd, Nat.reduceLT, Nat.reduceSub] at hH); subst hF; subst hH
    refine WE ?_
    refine WA ?_
    refine aw_if rfl (fun hne => ?_) (fun heq => ?_)
    · refine WA ?_
      refine aret_1 [] _ rfl rfl rfl (by decide) (ZNK rfl) (fun _ => .nil) ⟨?_, rfl⟩
      rw [progF, if_neg (by omega), ← hf, hfd, if_neg hne]
    · refine WA ?_
      refine wk_of [] (fun _ => [(9, .c (prog_r v l)), (10, .c (I (l.map Step.row).length)), (11, .c (I (k + 1 : Nat)))]) (fun _ => _) (by decide) (ZNL hE) ZCF (fun _ => .nil) (fun _ => ?_)
      exact ⟨m - 1, by omega, k + 1, by omega, by rw [← hf, hfd, if_pos (by omega)], rfl, rfl⟩
  refine WA ?_
  refine aret_1 [] _ rfl rfl rfl (by decide) (ZNK rfl) (fun _ => .nil) ⟨?_, rfl⟩
  rw [progF, if_neg (by omega), ← hf, List.drop_eq_nil_of_le (by omega)]; rfl
end Go.Proofs.YtdmeohgojdfmoaaGreatDoor
