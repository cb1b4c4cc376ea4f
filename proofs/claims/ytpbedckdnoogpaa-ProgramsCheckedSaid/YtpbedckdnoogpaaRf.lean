/- slices.Equal, by value. -/
import Derived.Test.YtpbedckdnoogpaaRe
set_option linter.unusedSimpArgs false
set_option linter.unusedVariables false
namespace Go.Proofs.Ytpbedckdnoogpaa
open Go Go.RowKit
set_option maxRecDepth 100000
theorem wt_eq {a b : Wt} : (a.m.x = b.m.x ∧ a.m.y = b.m.y ∧ a.m.z = b.m.z ∧ a.m.sp = b.m.sp ∧ a.m.he = b.m.he ∧ a.m.tl = b.m.tl ∧ a.m.fl = b.m.fl ∧ a.m.rel = b.m.rel ∧ a.t = b.t) ↔ a = b := by
  obtain ⟨⟨a1, a2, a3, a4, a5, a6, a7, a8⟩, a9⟩ := a
  obtain ⟨⟨b1, b2, b3, b4, b5, b6, b7, b8⟩, b9⟩ := b
  simp [and_assoc]
theorem step_eq {a b : Step} : (a.k = b.k ∧ a.x = b.x ∧ a.y = b.y ∧ a.z = b.z ∧ a.f = b.f ∧ a.n = b.n) ↔ a = b := by
  obtain ⟨a1, a2, a3, a4, a5, a6⟩ := a
  obtain ⟨b1, b2, b3, b4, b5, b6⟩ := b
  simp
theorem take_next {α : Type} {l : List α} {k : Nat} {s : α} (h : l[k]? = some s) : l.take (k + 1) = l.take k ++ [s] := by
  rw [List.take_add_one, h]; rfl
theorem eqM_a (l l' : List Mach) (v v' : Value) (hl : l.length ≤ 1000000000) (hl' : l'.length ≤ 1000000000) : ACalls Try.prog 24 [.c (.r v (l.map Mach.row)), .c (.r v' (l'.map Mach.row))] [] fun u H => ∃ b : Bool, u = .c (B b) ∧ H = [] ∧ (b = true ↔ l = l') := by
  have e1 : (l.map Mach.row).length = l.length := by simp
  have e2 : (l'.map Mach.row).length = l'.length := by simp
  refine acalls_of (N := 26) Try.func24 rfl rfl (by simp) fun E hE => ?_
  refine WA ?_
  refine WA ?_
  refine aw_if rfl (fun hne => ?_) (fun heq => ?_)
  · refine WA ?_
    exact aret_1 [] _ rfl rfl rfl (by decide) (ZNK rfl) (fun _ => .nil) ⟨_, rfl, rfl, by simp; intro e; rw [e] at hne; omega⟩
  refine ZZ ?_
  refine WA ?_
  refine aw_loopw (fun n F H => ∃ k : Nat, n + k = l.length ∧ l.take k = l'.take k ∧ F = [(0, .c (.r v (l.map Mach.row))), (1, .c (.r v' (l'.map Mach.row))), (12, .c (I (l.map Mach.row).length)), (13, .c (I k))] ∧ H = []) ?_ ?_
  · refine wk_of [] (fun _ => [(0, .c (.r v (l.map Mach.row))), (1, .c (.r v' (l'.map Mach.row))), (12, .c (I (l.map Mach.row).length)), (13, .c (I (0 : Nat)))]) (fun _ => _) (by decide) (ZNL hE) ZCF (fun _ => .nil) (fun _ => ?_)
    exact ⟨l.length, 0, by omega, rfl, rfl, rfl⟩
  rintro n F H ⟨k, hk, ht, rfl, rfl⟩
  refine WA ?_
  refine aw_if rfl (fun hlt => ?_) (fun hge => ?_)
  · obtain ⟨s, hs⟩ : ∃ s, l[k]? = some s := ⟨_, List.getElem?_eq_getElem (by omega)⟩
    obtain ⟨s', hs'⟩ : ∃ s', l'[k]? = some s' := ⟨_, List.getElem?_eq_getElem (by omega)⟩
    have hrow : (l.map Mach.row)[k]? = some (Mach.row s) := by rw [List.getElem?_map, hs]; rfl
    have hrow' : (l'.map Mach.row)[k]? = some (Mach.row s') := by rw [List.getElem?_map, hs']; rfl
    refine WA ?_
    refine ZZ ?_
    refine aw_regionT [(0, none), (1, none), (2, none), (3, none), (4, none), (5, none), (6, none), (7, none), (8, none)] hMixed (by kernel_rfl) ?_
    refine WQ ?_
    refine aw_if rfl (fun hn => ?_) (fun he => ?_)
    · refine WA ?_
      refine aret_1 [] _ rfl rfl rfl (by decide) (ZNK rfl) (fun _ => .nil) ⟨_, rfl, rfl, ?_⟩
      simp only [Bool.false_eq_true, false_iff]
      intro e
      subst e
      rw [hs] at hs'
      exact hn (Mach.eq_iff.2 (Option.some.inj hs'))
    · refine ZZ ?_
      refine WA ?_
      refine wk_of [] (fun _ => [(0, .c (.r v (l.map Mach.row))), (1, .c (.r v' (l'.map Mach.row))), (12, .c (I (l.map Mach.row).length)), (13, .c (I (k + 1 : Nat)))]) (fun _ => _) (by decide) (ZNL hE) ZCF (fun _ => .nil) (fun _ => ?_)
      exact ⟨n - 1, by omega, k + 1, by omega, by rw [take_next hs, take_next hs', ht, Mach.eq_iff.1 (Decidable.not_not.1 he)], rfl, rfl⟩
  refine WA ?_
  refine aret_1 [] _ rfl rfl rfl (by decide) (ZNK rfl) (fun _ => .nil) ⟨_, rfl, rfl, ?_⟩
  rw [List.take_of_length_le (by omega), List.take_of_length_le (by omega)] at ht
  simp [ht]
theorem eqD_a (l l' : List Wt) (v v' : Value) (hl : l.length ≤ 1000000000) (hl' : l'.length ≤ 1000000000) : ACalls Try.prog 95 [.c (.r v (l.map Wt.row)), .c (.r v' (l'.map Wt.row))] [] fun u H => ∃ b : Bool, u = .c (B b) ∧ H = [] ∧ (b = true ↔ l = l') := by
  have e1 : (l.map Wt.row).length = l.length := by simp
  have e2 : (l'.map Wt.row).length = l'.length := by simp
  refine acalls_of (N := 26) Try.func95 rfl rfl (by simp) fun E hE => ?_
  refine WA ?_
  refine WA ?_
  refine aw_if rfl (fun hne => ?_) (fun heq => ?_)
  · refine WA ?_
    exact aret_1 [] _ rfl rfl rfl (by decide) (ZNK rfl) (fun _ => .nil) ⟨_, rfl, rfl, by simp; intro e; rw [e] at hne; omega⟩
  refine ZZ ?_
  refine WA ?_
  refine aw_loopw (fun n F H => ∃ k : Nat, n + k = l.length ∧ l.take k = l'.take k ∧ F = [(0, .c (.r v (l.map Wt.row))), (1, .c (.r v' (l'.map Wt.row))), (12, .c (I (l.map Wt.row).length)), (13, .c (I k))] ∧ H = []) ?_ ?_
  · refine wk_of [] (fun _ => [(0, .c (.r v (l.map Wt.row))), (1, .c (.r v' (l'.map Wt.row))), (12, .c (I (l.map Wt.row).length)), (13, .c (I (0 : Nat)))]) (fun _ => _) (by decide) (ZNL hE) ZCF (fun _ => .nil) (fun _ => ?_)
    exact ⟨l.length, 0, by omega, rfl, rfl, rfl⟩
  rintro n F H ⟨k, hk, ht, rfl, rfl⟩
  refine WA ?_
  refine aw_if rfl (fun hlt => ?_) (fun hge => ?_)
  · obtain ⟨s, hs⟩ : ∃ s, l[k]? = some s := ⟨_, List.getElem?_eq_getElem (by omega)⟩
    obtain ⟨s', hs'⟩ : ∃ s', l'[k]? = some s' := ⟨_, List.getElem?_eq_getElem (by omega)⟩
    have hrow : (l.map Wt.row)[k]? = some (Wt.row s) := by rw [List.getElem?_map, hs]; rfl
    have hrow' : (l'.map Wt.row)[k]? = some (Wt.row s') := by rw [List.getElem?_map, hs']; rfl
    refine WA ?_
    refine ZZ ?_
    refine aw_regionT [(0, none), (1, none), (2, none), (3, none), (4, none), (5, none), (6, none), (7, none), (8, none)] hMixed (by kernel_rfl) ?_
    refine WQ ?_
    refine aw_if rfl (fun hn => ?_) (fun he => ?_)
    · refine WA ?_
      refine aret_1 [] _ rfl rfl rfl (by decide) (ZNK rfl) (fun _ => .nil) ⟨_, rfl, rfl, ?_⟩
      simp only [Bool.false_eq_true, false_iff]
      intro e
      subst e
      rw [hs] at hs'
      exact hn (wt_eq.2 (Option.some.inj hs'))
    · refine ZZ ?_
      refine WA ?_
      refine wk_of [] (fun _ => [(0, .c (.r v (l.map Wt.row))), (1, .c (.r v' (l'.map Wt.row))), (12, .c (I (l.map Wt.row).length)), (13, .c (I (k + 1 : Nat)))]) (fun _ => _) (by decide) (ZNL hE) ZCF (fun _ => .nil) (fun _ => ?_)
      exact ⟨n - 1, by omega, k + 1, by omega, by rw [take_next hs, take_next hs', ht, wt_eq.1 (Decidable.not_not.1 he)], rfl, rfl⟩
  refine WA ?_
  refine aret_1 [] _ rfl rfl rfl (by decide) (ZNK rfl) (fun _ => .nil) ⟨_, rfl, rfl, ?_⟩
  rw [List.take_of_length_le (by omega), List.take_of_length_le (by omega)] at ht
  simp [ht]
theorem eqN_a (l l' : List Wt) (v v' : Value) (hl : l.length ≤ 1000000000) (hl' : l'.length ≤ 1000000000) : ACalls Try.prog 99 [.c (.r v (l.map Wt.row)), .c (.r v' (l'.map Wt.row))] [] fun u H => ∃ b : Bool, u = .c (B b) ∧ H = [] ∧ (b = true ↔ l = l') := by
  have e1 : (l.map Wt.row).length = l.length := by simp
  have e2 : (l'.map Wt.row).length = l'.length := by simp
  refine acalls_of (N := 26) Try.func99 rfl rfl (by simp) fun E hE => ?_
  refine WA ?_
  refine WA ?_
  refine aw_if rfl (fun hne => ?_) (fun heq => ?_)
  · refine WA ?_
    exact aret_1 [] _ rfl rfl rfl (by decide) (ZNK rfl) (fun _ => .nil) ⟨_, rfl, rfl, by simp; intro e; rw [e] at hne; omega⟩
  refine ZZ ?_
  refine WA ?_
  refine aw_loopw (fun n F H => ∃ k : Nat, n + k = l.length ∧ l.take k = l'.take k ∧ F = [(0, .c (.r v (l.map Wt.row))), (1, .c (.r v' (l'.map Wt.row))), (12, .c (I (l.map Wt.row).length)), (13, .c (I k))] ∧ H = []) ?_ ?_
  · refine wk_of [] (fun _ => [(0, .c (.r v (l.map Wt.row))), (1, .c (.r v' (l'.map Wt.row))), (12, .c (I (l.map Wt.row).length)), (13, .c (I (0 : Nat)))]) (fun _ => _) (by decide) (ZNL hE) ZCF (fun _ => .nil) (fun _ => ?_)
    exact ⟨l.length, 0, by omega, rfl, rfl, rfl⟩
  rintro n F H ⟨k, hk, ht, rfl, rfl⟩
  refine WA ?_
  refine aw_if rfl (fun hlt => ?_) (fun hge => ?_)
  · obtain ⟨s, hs⟩ : ∃ s, l[k]? = some s := ⟨_, List.getElem?_eq_getElem (by omega)⟩
    obtain ⟨s', hs'⟩ : ∃ s', l'[k]? = some s' := ⟨_, List.getElem?_eq_getElem (by omega)⟩
    have hrow : (l.map Wt.row)[k]? = some (Wt.row s) := by rw [List.getElem?_map, hs]; rfl
    have hrow' : (l'.map Wt.row)[k]? = some (Wt.row s') := by rw [List.getElem?_map, hs']; rfl
    refine WA ?_
    refine ZZ ?_
    refine aw_regionT [(0, none), (1, none), (2, none), (3, none), (4, none), (5, none), (6, none), (7, none), (8, none)] hMixed (by kernel_rfl) ?_
    refine WQ ?_
    refine aw_if rfl (fun hn => ?_) (fun he => ?_)
    · refine WA ?_
      refine aret_1 [] _ rfl rfl rfl (by decide) (ZNK rfl) (fun _ => .nil) ⟨_, rfl, rfl, ?_⟩
      simp only [Bool.false_eq_true, false_iff]
      intro e
      subst e
      rw [hs] at hs'
      exact hn (wt_eq.2 (Option.some.inj hs'))
    · refine ZZ ?_
      refine WA ?_
      refine wk_of [] (fun _ => [(0, .c (.r v (l.map Wt.row))), (1, .c (.r v' (l'.map Wt.row))), (12, .c (I (l.map Wt.row).length)), (13, .c (I (k + 1 : Nat)))]) (fun _ => _) (by decide) (ZNL hE) ZCF (fun _ => .nil) (fun _ => ?_)
      exact ⟨n - 1, by omega, k + 1, by omega, by rw [take_next hs, take_next hs', ht, wt_eq.1 (Decidable.not_not.1 he)], rfl, rfl⟩
  refine WA ?_
  refine aret_1 [] _ rfl rfl rfl (by decide) (ZNK rfl) (fun _ => .nil) ⟨_, rfl, rfl, ?_⟩
  rw [List.take_of_length_le (by omega), List.take_of_length_le (by omega)] at ht
  simp [ht]
theorem eqS_a (l l' : List Step) (v v' : Value) (hl : l.length ≤ 1000000000) (hl' : l'.length ≤ 1000000000) : ACalls Try.prog 61 [.c (.r v (l.map Step.row)), .c (.r v' (l'.map Step.row))] [] fun u H => ∃ b : Bool, u = .c (B b) ∧ H = [] ∧ (b = true ↔ l = l') := by
  have e1 : (l.map Step.row).length = l.length := by simp
  have e2 : (l'.map Step.row).length = l'.length := by simp
  refine acalls_of (N := 26) Try.func61 rfl rfl (by simp) fun E hE => ?_
  refine WA ?_
  refine WA ?_
  refine aw_if rfl (fun hne => ?_) (fun heq => ?_)
  · refine WA ?_
    exact aret_1 [] _ rfl rfl rfl (by decide) (ZNK rfl) (fun _ => .nil) ⟨_, rfl, rfl, by simp; intro e; rw [e] at hne; omega⟩
  refine ZZ ?_
  refine WA ?_
  refine aw_loopw (fun n F H => ∃ k : Nat, n + k = l.length ∧ l.take k = l'.take k ∧ F = [(0, .c (.r v (l.map Step.row))), (1, .c (.r v' (l'.map Step.row))), (12, .c (I (l.map Step.row).length)), (13, .c (I k))] ∧ H = []) ?_ ?_
  · refine wk_of [] (fun _ => [(0, .c (.r v (l.map Step.row))), (1, .c (.r v' (l'.map Step.row))), (12, .c (I (l.map Step.row).length)), (13, .c (I (0 : Nat)))]) (fun _ => _) (by decide) (ZNL hE) ZCF (fun _ => .nil) (fun _ => ?_)
    exact ⟨l.length, 0, by omega, rfl, rfl, rfl⟩
  rintro n F H ⟨k, hk, ht, rfl, rfl⟩
  refine WA ?_
  refine aw_if rfl (fun hlt => ?_) (fun hge => ?_)
  · obtain ⟨s, hs⟩ : ∃ s, l[k]? = some s := ⟨_, List.getElem?_eq_getElem (by omega)⟩
    obtain ⟨s', hs'⟩ : ∃ s', l'[k]? = some s' := ⟨_, List.getElem?_eq_getElem (by omega)⟩
    have hrow : (l.map Step.row)[k]? = some (Step.row s) := by rw [List.getElem?_map, hs]; rfl
    have hrow' : (l'.map Step.row)[k]? = some (Step.row s') := by rw [List.getElem?_map, hs']; rfl
    refine WA ?_
    refine ZZ ?_
    refine aw_regionT [(0, none), (1, none), (2, none), (3, none), (4, none), (5, none), (6, none), (7, none), (8, none)] hMixed (by kernel_rfl) ?_
    refine WQ ?_
    refine aw_if rfl (fun hn => ?_) (fun he => ?_)
    · refine WA ?_
      refine aret_1 [] _ rfl rfl rfl (by decide) (ZNK rfl) (fun _ => .nil) ⟨_, rfl, rfl, ?_⟩
      simp only [Bool.false_eq_true, false_iff]
      intro e
      subst e
      rw [hs] at hs'
      exact hn (step_eq.2 (Option.some.inj hs'))
    · refine ZZ ?_
      refine WA ?_
      refine wk_of [] (fun _ => [(0, .c (.r v (l.map Step.row))), (1, .c (.r v' (l'.map Step.row))), (12, .c (I (l.map Step.row).length)), (13, .c (I (k + 1 : Nat)))]) (fun _ => _) (by decide) (ZNL hE) ZCF (fun _ => .nil) (fun _ => ?_)
      exact ⟨n - 1, by omega, k + 1, by omega, by rw [take_next hs, take_next hs', ht, step_eq.1 (Decidable.not_not.1 he)], rfl, rfl⟩
  refine WA ?_
  refine aret_1 [] _ rfl rfl rfl (by decide) (ZNK rfl) (fun _ => .nil) ⟨_, rfl, rfl, ?_⟩
  rw [List.take_of_length_le (by omega), List.take_of_length_le (by omega)] at ht
  simp [ht]
end Go.Proofs.Ytpbedckdnoogpaa
