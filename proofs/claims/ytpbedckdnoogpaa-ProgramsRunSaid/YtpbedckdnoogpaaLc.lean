/- The deeds of two programs are the same just when their moments are. -/
import Derived.Test.YtpbedckdnoogpaaCh
import Derived.Test.YtpbedckdnoogpaaRg
set_option linter.unusedSimpArgs false
set_option linter.unusedVariables false
namespace Go.Proofs.Ytpbedckdnoogpaa
open Go Go.RowKit
def conv : Mach → List Wt → List Wt
  | _, [] => []
  | p, x :: xs => ⟨p, x.t⟩ :: conv x.m xs
def lastm : Mach → List Wt → Mach
  | p, [] => p
  | _, x :: xs => lastm x.m xs
theorem conv_snoc : ∀ (p : Mach) (xs : List Wt) (x : Wt), conv p (xs ++ [x]) = conv p xs ++ [⟨lastm p xs, x.t⟩]
  | _, [], _ => rfl
  | p, y :: xs, x => by simp [conv, lastm, conv_snoc y.m xs x]
theorem lastm_snoc : ∀ (p : Mach) (xs : List Wt) (x : Wt), lastm p (xs ++ [x]) = x.m
  | _, [], _ => rfl
  | p, y :: xs, x => by simp [lastm, lastm_snoc y.m xs x]
theorem conv_inj : ∀ (xs ys : List Wt) (p q : Mach) (w w' : Int), conv p xs ++ [⟨lastm p xs, w⟩] = conv q ys ++ [⟨lastm q ys, w'⟩] → p = q ∧ xs = ys ∧ w = w'
  | [], [], p, q, w, w', h => by
    simp [conv, lastm] at h
    exact ⟨h.1, rfl, h.2⟩
  | [], y :: ys, p, q, w, w', h => by
    have := congrArg List.length h
    simp [conv] at this
  | x :: xs, [], p, q, w, w', h => by
    have := congrArg List.length h
    simp [conv] at this
  | x :: xs, y :: ys, p, q, w, w', h => by
    simp only [conv, lastm, List.cons_append, List.cons.injEq, Wt.mk.injEq] at h
    obtain ⟨h1, h2, h3⟩ := conv_inj xs ys x.m y.m w w' h.2
    obtain ⟨xm, xt⟩ := x
    obtain ⟨ym, yt⟩ := y
    simp only at h h1
    obtain ⟨⟨e1, e2⟩, _⟩ := h
    subst e1; subst e2; subst h1; subst h2; subst h3
    exact ⟨rfl, rfl, rfl⟩
theorem afterS_wait {m : Mach} {s : Step} (h : s.k = 7) : afterS m s = m := by
  unfold afterS
  simp [h]
theorem deeds_moms (l : List Step) : ∀ k, k ≤ l.length → (deedS l k).o = conv Mach.zero (momS l k).out ∧ (deedS l k).d = ⟨(momS l k).now, (momS l k).wait⟩ ∧ (momS l k).now = lastm Mach.zero (momS l k).out ∧ (momS l k).now = (lastS (l.take k)).abs
  | 0, _ => ⟨rfl, rfl, rfl, rfl⟩
  | k + 1, hk => by
    obtain ⟨h1, h2, h3, h4⟩ := deeds_moms l k (by omega)
    obtain ⟨s, hs⟩ : ∃ s, l[k]? = some s := ⟨_, List.getElem?_eq_getElem (by omega)⟩
    have hl := lastS_succ hs
    rw [deedS_succ hs, momS_succ hs]
    unfold stepDS stepMS
    have heq : (deedS l k).d.m = (momS l k).now := by rw [h2]
    by_cases he : (lastS (l.take (k + 1))).abs = (momS l k).now
    · rw [if_pos (by rw [heq, he]; exact Mach.eq_iff.2 rfl), if_pos (Mach.eq_iff.2 he)]
      by_cases h7 : s.k = 7
      · rw [if_pos h7]
        refine ⟨h1, ?_, h3, he.symm⟩
        simp only [waitS, if_pos h7, h2]
      · rw [if_neg h7]
        refine ⟨h1, ?_, h3, he.symm⟩
        simp only [waitS, if_neg h7, h2]
    · rw [if_neg (fun h => he (by rw [heq] at h; exact (Mach.eq_iff.1 h).symm)), if_neg (fun h => he (Mach.eq_iff.1 h))]
      have h7 : s.k ≠ 7 := fun h7 => he (by rw [hl, afterS_wait h7, h4])
      refine ⟨?_, rfl, ?_, rfl⟩
      · simp only [conv_snoc, h1, h2, waitS, if_neg h7, h3]
      · simp only [lastm_snoc]
theorem same_iff (l l' : List Step) : deedsL l = deedsL l' ↔ sameM l l' := by
  obtain ⟨h1, h2, h3, _⟩ := deeds_moms l l.length (Nat.le_refl _)
  obtain ⟨h1', h2', h3', _⟩ := deeds_moms l' l'.length (Nat.le_refl _)
  unfold deedsL sameM
  rw [h1, h2, h1', h2', h3, h3']
  constructor
  · intro h
    exact (conv_inj _ _ _ _ _ _ h).2
  · rintro ⟨e1, e2⟩
    rw [e1, e2]
end Go.Proofs.Ytpbedckdnoogpaa
