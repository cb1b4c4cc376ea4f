/- Contours, Ends and Alike: the program's and the reference's, by value. -/
import Derived.Test.YtlblimbelfenaaaGreatQbd
import Derived.Test.YtlblimbelfenaaaGreatQbh
set_option linter.unusedSimpArgs false
set_option linter.unusedVariables false
/- Equal lists of cuts, segments, sides, contours, by value. -/
-- NEWM
namespace Go.Proofs.YtlblimbelfenaaaGreat
open Go Go.RowKit
set_option maxRecDepth 100000
theorem cut_eqk {a b : Cut6} : (a.s.f = b.s.f ∧ a.s.t = b.s.t ∧ a.x.n = b.x.n ∧ a.x.d = b.x.d ∧ a.y.n = b.y.n ∧ a.y.d = b.y.d) ↔ a = b := by
  obtain ⟨⟨a1, a2⟩, ⟨a3, a4⟩, ⟨a5, a6⟩⟩ := a
  obtain ⟨⟨b1, b2⟩, ⟨b3, b4⟩, ⟨b5, b6⟩⟩ := b
  simp [and_assoc]
theorem seg_eqk {a b : Seg5} : (a.i = b.i ∧ a.fr.f = b.fr.f ∧ a.fr.t = b.fr.t ∧ a.to.f = b.to.f ∧ a.to.t = b.to.t) ↔ a = b := by
  obtain ⟨a1, ⟨a2, a3⟩, ⟨a4, a5⟩⟩ := a
  obtain ⟨b1, ⟨b2, b3⟩, ⟨b4, b5⟩⟩ := b
  simp [and_assoc]
theorem sid_eqk {a b : Sid2} : (a.f = b.f ∧ a.t = b.t) ↔ a = b := (sid_eq a b).symm
theorem eqCt_a (l l' : List Cut6) (v v' : Value) (hl : l.length ≤ 1000000000) (hl' : l'.length ≤ 1000000000) : ACalls Tryz.prog 29 [.c (.r v (l.map Cut6.row)), .c (.r v' (l'.map Cut6.row))] [] fun u H => ∃ b : Bool, u = .c (B b) ∧ H = [] ∧ (b = true ↔ l = l') := by
  have e1 : (l.map Cut6.row).length = l.length := by simp
  have e2 : (l'.map Cut6.row).length = l'.length := by simp
  refine acalls_of (N := 26) Tryz.func29 rfl rfl (by simp) fun E hE => ?_
  refine WA ?_
  refine WA ?_
  refine aw_if rfl (fun hne => ?_) (fun heq => ?_)
  · refine WA ?_
    exact aret_1 [] _ rfl rfl rfl (by decide) (ZNK rfl) (fun _ => .nil) ⟨_, rfl, rfl, by simp; intro e; rw [e] at hne; omega⟩
  refine ZZ ?_
  refine WA ?_
  refine aw_loopw (fun n F H => ∃ k : Nat, n + k = l.length ∧ l.take k = l'.take k ∧ F = [(0, .c (.r v (l.map Cut6.row))), (1, .c (.r v' (l'.map Cut6.row))), (12, .c (I (l.map Cut6.row).length)), (13, .c (I k))] ∧ H = []) ?_ ?_
  · refine wk_of [] (fun _ => [(0, .c (.r v (l.map Cut6.row))), (1, .c (.r v' (l'.map Cut6.row))), (12, .c (I (l.map Cut6.row).length)), (13, .c (I (0 : Nat)))]) (fun _ => _) (by decide) (ZNL hE) ZCF (fun _ => .nil) (fun _ => ?_)
    exact ⟨l.length, 0, by omega, rfl, rfl, rfl⟩
  rintro n F H ⟨k, hk, ht, rfl, rfl⟩
  refine WA ?_
  refine aw_if rfl (fun hlt => ?_) (fun hge => ?_)
  · obtain ⟨s, hs⟩ : ∃ s, l[k]? = some s := ⟨_, List.getElem?_eq_getElem (by omega)⟩
    obtain ⟨s', hs'⟩ : ∃ s', l'[k]? = some s' := ⟨_, List.getElem?_eq_getElem (by omega)⟩
    have hrow : (l.map Cut6.row)[k]? = some (Cut6.row s) := by rw [List.getElem?_map, hs]; rfl
    have hrow' : (l'.map Cut6.row)[k]? = some (Cut6.row s') := by rw [List.getElem?_map, hs']; rfl
    refine WA ?_
    refine ZZ ?_
    refine aw_regionT [(0, none), (1, none), (2, none), (3, none), (4, none), (5, none), (6, none), (7, none), (8, none)] hMixed (by kernel_rfl) ?_
    refine WQ ?_
    refine aw_if rfl (fun hn => ?_) (fun he => ?_)
    · refine WA ?_
      refine aret_1 [] _ rfl rfl rfl (by decide) (ZNK rfl) (fun _ => .nil) ⟨_, rfl, rfl, ?_⟩
      simp only [Bool.false_eq_true, false_iff]
      intro e
      subst e
      rw [hs] at hs'
      exact hn (cut_eqk.2 (Option.some.inj hs'))
    · refine ZZ ?_
      refine WA ?_
      refine wk_of [] (fun _ => [(0, .c (.r v (l.map Cut6.row))), (1, .c (.r v' (l'.map Cut6.row))), (12, .c (I (l.map Cut6.row).length)), (13, .c (I (k + 1 : Nat)))]) (fun _ => _) (by decide) (ZNL hE) ZCF (fun _ => .nil) (fun _ => ?_)
      exact ⟨n - 1, by omega, k + 1, by omega, by rw [take_nextk hs, take_nextk hs', ht, cut_eqk.1 (Decidable.not_not.1 he)], rfl, rfl⟩
  refine WA ?_
  refine aret_1 [] _ rfl rfl rfl (by decide) (ZNK rfl) (fun _ => .nil) ⟨_, rfl, rfl, ?_⟩
  rw [List.take_of_length_le (by omega), List.take_of_length_le (by omega)] at ht
  simp [ht]
theorem eqSg_a (l l' : List Seg5) (v v' : Value) (hl : l.length ≤ 1000000000) (hl' : l'.length ≤ 1000000000) : ACalls Tryz.prog 30 [.c (.r v (l.map Seg5.row)), .c (.r v' (l'.map Seg5.row))] [] fun u H => ∃ b : Bool, u = .c (B b) ∧ H = [] ∧ (b = true ↔ l = l') := by
  have e1 : (l.map Seg5.row).length = l.length := by simp
  have e2 : (l'.map Seg5.row).length = l'.length := by simp
  refine acalls_of (N := 26) Tryz.func30 rfl rfl (by simp) fun E hE => ?_
  refine WA ?_
  refine WA ?_
  refine aw_if rfl (fun hne => ?_) (fun heq => ?_)
  · refine WA ?_
    exact aret_1 [] _ rfl rfl rfl (by decide) (ZNK rfl) (fun _ => .nil) ⟨_, rfl, rfl, by simp; intro e; rw [e] at hne; omega⟩
  refine ZZ ?_
  refine WA ?_
  refine aw_loopw (fun n F H => ∃ k : Nat, n + k = l.length ∧ l.take k = l'.take k ∧ F = [(0, .c (.r v (l.map Seg5.row))), (1, .c (.r v' (l'.map Seg5.row))), (12, .c (I (l.map Seg5.row).length)), (13, .c (I k))] ∧ H = []) ?_ ?_
  · refine wk_of [] (fun _ => [(0, .c (.r v (l.map Seg5.row))), (1, .c (.r v' (l'.map Seg5.row))), (12, .c (I (l.map Seg5.row).length)), (13, .c (I (0 : Nat)))]) (fun _ => _) (by decide) (ZNL hE) ZCF (fun _ => .nil) (fun _ => ?_)
    exact ⟨l.length, 0, by omega, rfl, rfl, rfl⟩
  rintro n F H ⟨k, hk, ht, rfl, rfl⟩
  refine WA ?_
  refine aw_if rfl (fun hlt => ?_) (fun hge => ?_)
  · obtain ⟨s, hs⟩ : ∃ s, l[k]? = some s := ⟨_, List.getElem?_eq_getElem (by omega)⟩
    obtain ⟨s', hs'⟩ : ∃ s', l'[k]? = some s' := ⟨_, List.getElem?_eq_getElem (by omega)⟩
    have hrow : (l.map Seg5.row)[k]? = some (Seg5.row s) := by rw [List.getElem?_map, hs]; rfl
    have hrow' : (l'.map Seg5.row)[k]? = some (Seg5.row s') := by rw [List.getElem?_map, hs']; rfl
    refine WA ?_
    refine ZZ ?_
    refine aw_regionT [(0, none), (1, none), (2, none), (3, none), (4, none), (5, none), (6, none), (7, none), (8, none)] hMixed (by kernel_rfl) ?_
    refine WQ ?_
    refine aw_if rfl (fun hn => ?_) (fun he => ?_)
    · refine WA ?_
      refine aret_1 [] _ rfl rfl rfl (by decide) (ZNK rfl) (fun _ => .nil) ⟨_, rfl, rfl, ?_⟩
      simp only [Bool.false_eq_true, false_iff]
      intro e
      subst e
      rw [hs] at hs'
      exact hn (seg_eqk.2 (Option.some.inj hs'))
    · refine ZZ ?_
      refine WA ?_
      refine wk_of [] (fun _ => [(0, .c (.r v (l.map Seg5.row))), (1, .c (.r v' (l'.map Seg5.row))), (12, .c (I (l.map Seg5.row).length)), (13, .c (I (k + 1 : Nat)))]) (fun _ => _) (by decide) (ZNL hE) ZCF (fun _ => .nil) (fun _ => ?_)
      exact ⟨n - 1, by omega, k + 1, by omega, by rw [take_nextk hs, take_nextk hs', ht, seg_eqk.1 (Decidable.not_not.1 he)], rfl, rfl⟩
  refine WA ?_
  refine aret_1 [] _ rfl rfl rfl (by decide) (ZNK rfl) (fun _ => .nil) ⟨_, rfl, rfl, ?_⟩
  rw [List.take_of_length_le (by omega), List.take_of_length_le (by omega)] at ht
  simp [ht]
theorem eqSd_a (l l' : List Sid2) (v v' : Value) (hl : l.length ≤ 1000000000) (hl' : l'.length ≤ 1000000000) : ACalls Tryz.prog 33 [.c (.r v (l.map Sid2.row)), .c (.r v' (l'.map Sid2.row))] [] fun u H => ∃ b : Bool, u = .c (B b) ∧ H = [] ∧ (b = true ↔ l = l') := by
  have e1 : (l.map Sid2.row).length = l.length := by simp
  have e2 : (l'.map Sid2.row).length = l'.length := by simp
  refine acalls_of (N := 26) Tryz.func33 rfl rfl (by simp) fun E hE => ?_
  refine WA ?_
  refine WA ?_
  refine aw_if rfl (fun hne => ?_) (fun heq => ?_)
  · refine WA ?_
    exact aret_1 [] _ rfl rfl rfl (by decide) (ZNK rfl) (fun _ => .nil) ⟨_, rfl, rfl, by simp; intro e; rw [e] at hne; omega⟩
  refine ZZ ?_
  refine WA ?_
  refine aw_loopw (fun n F H => ∃ k : Nat, n + k = l.length ∧ l.take k = l'.take k ∧ F = [(0, .c (.r v (l.map Sid2.row))), (1, .c (.r v' (l'.map Sid2.row))), (12, .c (I (l.map Sid2.row).length)), (13, .c (I k))] ∧ H = []) ?_ ?_
  · refine wk_of [] (fun _ => [(0, .c (.r v (l.map Sid2.row))), (1, .c (.r v' (l'.map Sid2.row))), (12, .c (I (l.map Sid2.row).length)), (13, .c (I (0 : Nat)))]) (fun _ => _) (by decide) (ZNL hE) ZCF (fun _ => .nil) (fun _ => ?_)
    exact ⟨l.length, 0, by omega, rfl, rfl, rfl⟩
  rintro n F H ⟨k, hk, ht, rfl, rfl⟩
  refine WA ?_
  refine aw_if rfl (fun hlt => ?_) (fun hge => ?_)
  · obtain ⟨s, hs⟩ : ∃ s, l[k]? = some s := ⟨_, List.getElem?_eq_getElem (by omega)⟩
    obtain ⟨s', hs'⟩ : ∃ s', l'[k]? = some s' := ⟨_, List.getElem?_eq_getElem (by omega)⟩
    have hrow : (l.map Sid2.row)[k]? = some (Sid2.row s) := by rw [List.getElem?_map, hs]; rfl
    have hrow' : (l'.map Sid2.row)[k]? = some (Sid2.row s') := by rw [List.getElem?_map, hs']; rfl
    refine WA ?_
    refine ZZ ?_
    refine aw_regionT [(0, none), (1, none), (2, none), (3, none), (4, none), (5, none), (6, none), (7, none), (8, none)] hMixed (by kernel_rfl) ?_
    refine WQ ?_
    refine aw_if rfl (fun hn => ?_) (fun he => ?_)
    · refine WA ?_
      refine aret_1 [] _ rfl rfl rfl (by decide) (ZNK rfl) (fun _ => .nil) ⟨_, rfl, rfl, ?_⟩
      simp only [Bool.false_eq_true, false_iff]
      intro e
      subst e
      rw [hs] at hs'
      exact hn (sid_eqk.2 (Option.some.inj hs'))
    · refine ZZ ?_
      refine WA ?_
      refine wk_of [] (fun _ => [(0, .c (.r v (l.map Sid2.row))), (1, .c (.r v' (l'.map Sid2.row))), (12, .c (I (l.map Sid2.row).length)), (13, .c (I (k + 1 : Nat)))]) (fun _ => _) (by decide) (ZNL hE) ZCF (fun _ => .nil) (fun _ => ?_)
      exact ⟨n - 1, by omega, k + 1, by omega, by rw [take_nextk hs, take_nextk hs', ht, sid_eqk.1 (Decidable.not_not.1 he)], rfl, rfl⟩
  refine WA ?_
  refine aret_1 [] _ rfl rfl rfl (by decide) (ZNK rfl) (fun _ => .nil) ⟨_, rfl, rfl, ?_⟩
  rw [List.take_of_length_le (by omega), List.take_of_length_le (by omega)] at ht
  simp [ht]
abbrev bR (l : List Bool) : List (List CV) := l.map fun b => [B b]
theorem take_lastk {α : Type} {l : List α} {k : Nat} {x : α} (h : l[k]? = some x) : l.take (k + 1) = l.take k ++ [x] := by rw [List.take_add_one, h]; rfl
theorem eqBl_a (l l' : List Bool) (v v' : Value) (hl : l.length ≤ 1000000000) (hl' : l'.length ≤ 1000000000) : ACalls Tryz.prog 32 [.c (.r v (bR l)), .c (.r v' (bR l'))] [] fun u H => ∃ b : Bool, u = .c (B b) ∧ H = [] ∧ (b = true ↔ l = l') := by
  have e1 : (bR l).length = l.length := by simp
  have e2 : (bR l').length = l'.length := by simp
  refine acalls_of (N := 26) Tryz.func32 rfl rfl (by simp) fun E hE => ?_
  refine WA ?_
  refine WA ?_
  refine aw_if rfl (fun hne => ?_) (fun heq => ?_)
  · refine WA ?_
    exact aret_1 [] _ rfl rfl rfl (by decide) (ZNK rfl) (fun _ => .nil) ⟨_, rfl, rfl, by simp; intro e; rw [e] at hne; omega⟩
  refine ZZ ?_
  refine WA ?_
  refine aw_loopw (fun n F H => ∃ k : Nat, n + k = l.length ∧ l.take k = l'.take k ∧ F = [(0, .c (.r v (bR l))), (1, .c (.r v' (bR l'))), (12, .c (I (bR l).length)), (13, .c (I k))] ∧ H = []) ?_ ?_
  · refine wk_of [] (fun _ => [(0, .c (.r v (bR l))), (1, .c (.r v' (bR l'))), (12, .c (I (bR l).length)), (13, .c (I (0 : Nat)))]) (fun _ => _) (by decide) (ZNL hE) ZCF (fun _ => .nil) (fun _ => ?_)
    exact ⟨l.length, 0, by omega, rfl, rfl, rfl⟩
  rintro n F H ⟨k, hk, ht, rfl, rfl⟩
  refine WA ?_
  refine aw_if rfl (fun hlt => ?_) (fun hge => ?_)
  · obtain ⟨s, hs⟩ : ∃ s, l[k]? = some s := ⟨_, List.getElem?_eq_getElem (by omega)⟩
    obtain ⟨s', hs'⟩ : ∃ s', l'[k]? = some s' := ⟨_, List.getElem?_eq_getElem (by omega)⟩
    have hrow : (bR l)[k]? = some [B s] := by rw [List.getElem?_map, hs]; rfl
    have hrow' : (bR l')[k]? = some [B s'] := by rw [List.getElem?_map, hs']; rfl
    refine WA ?_
    refine ZZ ?_
    refine aw_regionT [(0, none), (1, none), (2, none), (3, none), (4, none), (5, none), (6, none), (7, none), (8, none)] hMixed (by kernel_rfl) ?_
    refine WQ ?_
    refine aw_cond rfl (fun hn => ?_) (fun he => ?_)
    · refine WA ?_
      refine aret_1 [] _ rfl rfl rfl (by decide) (ZNK rfl) (fun _ => .nil) ⟨_, rfl, rfl, ?_⟩
      simp only [Bool.false_eq_true, false_iff]
      intro e
      subst e
      rw [hs] at hs'
      have := Option.some.inj hs'
      subst this
      simp at hn
    · have he' : s = s' := by simpa using he
      refine ZZ ?_
      refine WA ?_
      refine wk_of [] (fun _ => [(0, .c (.r v (bR l))), (1, .c (.r v' (bR l'))), (12, .c (I (bR l).length)), (13, .c (I (k + 1 : Nat)))]) (fun _ => _) (by decide) (ZNL hE) ZCF (fun _ => .nil) (fun _ => ?_)
      exact ⟨n - 1, by omega, k + 1, by omega, by rw [take_lastk hs, take_lastk hs', ht, he'], rfl, rfl⟩
  refine WA ?_
  refine aret_1 [] _ rfl rfl rfl (by decide) (ZNK rfl) (fun _ => .nil) ⟨_, rfl, rfl, ?_⟩
  rw [List.take_of_length_le (by omega), List.take_of_length_le (by omega)] at ht
  simp [ht]
/- ## Contours -/
abbrev sidR (l : List (Value × Con)) : List (List CV) := l.map fun p => [.r p.1 (sR p.2.1)]
abbrev cloR (l : List (Value × Con)) : List (List CV) := l.map fun p => [B p.2.2]
set_option maxHeartbeats 2000000 in
theorem eqfS_a (l l' : List (Value × Con)) (v v' : Value) (hl : l.length ≤ 1000000) (hl' : l'.length ≤ 1000000) (hs : ∀ p ∈ l, p.2.1.length ≤ 1000000) (hs' : ∀ p ∈ l', p.2.1.length ≤ 1000000) : ACalls Tryz.prog 94 [.c (.r v (sidR l)), .c (.r v' (sidR l')), .f (.func 33) []] [] fun u H => ∃ b : Bool, u = .c (B b) ∧ H = [] ∧ (b = true ↔ l.map (fun p => p.2.1) = l'.map (fun p => p.2.1)) := by
  have e1 : (sidR l).length = l.length := by simp
  have e2 : (sidR l').length = l'.length := by simp
  refine acalls_of (N := 32) Tryz.func94 rfl rfl (by simp) fun E hE => ?_
  refine WA ?_
  refine WA ?_
  refine aw_if rfl (fun hne => ?_) (fun heq => ?_)
  · refine WA ?_
    refine aret_1 [] _ rfl rfl rfl (by decide) (ZNK rfl) (fun _ => .nil) ⟨_, rfl, rfl, ?_⟩
    simp only [Bool.false_eq_true, false_iff]
    intro e
    have := congrArg List.length e
    rw [List.length_map, List.length_map] at this
    omega
  refine ZZ ?_
  refine WA ?_
  refine aw_loopw (fun n F H => ∃ k : Nat, n + k = l.length ∧ (l.map fun p => p.2.1).take k = (l'.map fun p => p.2.1).take k ∧ F = [(1, .c (.r v' (sidR l'))), (2, .f (.func 33) []), (15, .c (.r v (sidR l))), (16, .c (I (sidR l).length)), (17, .c (I k))] ∧ H = []) ?_ ?_
  · refine wk_of [] (fun _ => [(1, .c (.r v' (sidR l'))), (2, .f (.func 33) []), (15, .c (.r v (sidR l))), (16, .c (I (sidR l).length)), (17, .c (I (0 : Nat)))]) (fun _ => _) (by decide) (ZNL hE) ZCF (fun _ => .nil) (fun _ => ?_)
    exact ⟨l.length, 0, by omega, rfl, rfl, rfl⟩
  rintro n F H ⟨k, hk, ht, rfl, rfl⟩
  refine WA ?_
  refine aw_if rfl (fun hlt => ?_) (fun hge => ?_)
  · obtain ⟨p, hp⟩ : ∃ s, l[k]? = some s := ⟨_, List.getElem?_eq_getElem (by omega)⟩
    obtain ⟨p', hp'⟩ : ∃ s', l'[k]? = some s' := ⟨_, List.getElem?_eq_getElem (by omega)⟩
    have hm := hs p (List.mem_of_getElem? hp)
    have hm' := hs' p' (List.mem_of_getElem? hp')
    obtain ⟨pv, ps, pb⟩ := p
    obtain ⟨pv', ps', pb'⟩ := p'
    simp only at hm hm'
    have hrow : (sidR l)[k]? = some [.r pv (sR ps)] := by rw [List.getElem?_map, hp]; rfl
    have hrow' : (sidR l')[k]? = some [.r pv' (sR ps')] := by rw [List.getElem?_map, hp']; rfl
    have hq : (l.map fun p => p.2.1)[k]? = some (ps, pb).1 := by rw [List.getElem?_map, hp]; rfl
    have hq' : (l'.map fun p => p.2.1)[k]? = some (ps', pb').1 := by rw [List.getElem?_map, hp']; rfl
    refine WA ?_
    refine WA ?_
    refine WR ?_
    refine al_ef rfl (ef_call0 false (fun _ => eqSd_a ps ps' pv pv' (by omega) (by omega)) rfl (.clo rfl) rfl (by decide) (by kernel_rfl) rfl (fun _ => C0 rfl) (by simp)) ?_
    rintro _ _ ⟨_, _, _, ⟨bb, rfl, rfl, hb⟩, hF, hH⟩
    (try simp only [nsl, Nat.reduceAdd, Nat.reduceLT, Nat.reduceSub] at hF); (try simp only [nsl, Nat.reduceAdd, Nat.reduceLT, Nat.reduceSub] at hH); subst hF; subst hH
    refine WE ?_
    refine aw_cond rfl (fun hn => ?_) (fun he => ?_)
    · refine WA ?_
      refine aret_1 [] _ rfl rfl rfl (by decide) (ZNK rfl) (fun _ => .nil) ⟨_, rfl, rfl, ?_⟩
      simp only [Bool.false_eq_true, false_iff]
      intro e
      rw [e, hq'] at hq
      have h2 := Option.some.inj hq
      rw [hb.2 h2.symm] at hn
      simp at hn
    · have hbt : bb = true := by simpa using he
      have h2 := hb.1 hbt
      refine ZZ ?_
      refine WA ?_
      refine wk_of [] (fun _ => [(1, .c (.r v' (sidR l'))), (2, .f (.func 33) []), (15, .c (.r v (sidR l))), (16, .c (I (sidR l).length)), (17, .c (I (k + 1 : Nat)))]) (fun _ => _) (by decide) (ZNL hE) ZCF (fun _ => .nil) (fun _ => ?_)
      exact ⟨n - 1, by omega, k + 1, by omega, by rw [take_lastk hq, take_lastk hq', ht, h2], rfl, rfl⟩
  refine WA ?_
  refine aret_1 [] _ rfl rfl rfl (by decide) (ZNK rfl) (fun _ => .nil) ⟨_, rfl, rfl, ?_⟩
  rw [List.take_of_length_le (by simp; omega), List.take_of_length_le (by simp; omega)] at ht
  simp only [ht]
theorem alike1_v (pv pv' : Value) (ps ps' : List Sid2) (pb pb' : Bool) (hs : ps.length ≤ 1000000) (hs' : ps'.length ≤ 1000000) : ACalls Tryz.prog 78 [.a [.c (.r pv (sR ps)), .c (B pb)], .a [.c (.r pv' (sR ps')), .c (B pb')]] [] fun u H => ∃ b : Bool, u = .c (B b) ∧ H = [] ∧ (b = true ↔ (ps, pb) = (ps', pb')) := by
  refine acalls_of (N := 17) Tryz.func78 rfl rfl (by simp) fun E hE => ?_
  refine WA ?_
  cases pb <;> cases pb'
  · refine WR ?_
    refine G1 rfl ?_
    refine al_ef rfl (ef_call0 false (fun _ => eqSd_a ps ps' pv pv' (by omega) (by omega)) rfl .fn rfl (by decide) (by kernel_rfl) rfl (fun _ => C0 rfl) (by simp)) ?_
    rintro _ _ ⟨_, _, _, ⟨bb, rfl, rfl, hb⟩, hF, hH⟩
    (try simp only [nsl, Nat.reduceAdd, Nat.reduceLT, Nat.reduceSub] at hF); (try simp only [nsl, Nat.reduceAdd, Nat.reduceLT, Nat.reduceSub] at hH); subst hF; subst hH
    refine WE ?_
    exact aret_1 [] _ rfl rfl rfl (by decide) (ZNK rfl) (fun _ => .nil) ⟨_, rfl, rfl, by rw [hb]; simp⟩
  · refine WR ?_
    refine WE ?_
    exact aret_1 [] _ rfl rfl rfl (by decide) (ZNK rfl) (fun _ => .nil) ⟨_, rfl, rfl, by simp⟩
  · refine WR ?_
    refine WE ?_
    exact aret_1 [] _ rfl rfl rfl (by decide) (ZNK rfl) (fun _ => .nil) ⟨_, rfl, rfl, by simp⟩
  · refine WR ?_
    refine G1 rfl ?_
    refine al_ef rfl (ef_call0 false (fun _ => eqSd_a ps ps' pv pv' (by omega) (by omega)) rfl .fn rfl (by decide) (by kernel_rfl) rfl (fun _ => C0 rfl) (by simp)) ?_
    rintro _ _ ⟨_, _, _, ⟨bb, rfl, rfl, hb⟩, hF, hH⟩
    (try simp only [nsl, Nat.reduceAdd, Nat.reduceLT, Nat.reduceSub] at hF); (try simp only [nsl, Nat.reduceAdd, Nat.reduceLT, Nat.reduceSub] at hH); subst hF; subst hH
    refine WE ?_
    exact aret_1 [] _ rfl rfl rfl (by decide) (ZNK rfl) (fun _ => .nil) ⟨_, rfl, rfl, by rw [hb]; simp⟩
set_option maxHeartbeats 2000000 in
theorem eqfC_a (l l' : List (Value × Con)) (v v' : Value) (hl : l.length ≤ 1000000) (hl' : l'.length ≤ 1000000) (hs : ∀ p ∈ l, p.2.1.length ≤ 1000000) (hs' : ∀ p ∈ l', p.2.1.length ≤ 1000000) : ACalls Tryz.prog 77 [.c (.r v (cR l)), .c (.r v' (cR l')), .f (.func 78) []] [] fun u H => ∃ b : Bool, u = .c (B b) ∧ H = [] ∧ (b = true ↔ l.map (fun p => p.2) = l'.map (fun p => p.2)) := by
  have e1 : (cR l).length = l.length := by simp
  have e2 : (cR l').length = l'.length := by simp
  refine acalls_of (N := 32) Tryz.func77 rfl rfl (by simp) fun E hE => ?_
  refine WA ?_
  refine WA ?_
  refine aw_if rfl (fun hne => ?_) (fun heq => ?_)
  · refine WA ?_
    refine aret_1 [] _ rfl rfl rfl (by decide) (ZNK rfl) (fun _ => .nil) ⟨_, rfl, rfl, ?_⟩
    simp only [Bool.false_eq_true, false_iff]
    intro e
    have := congrArg List.length e
    rw [List.length_map, List.length_map] at this
    omega
  refine ZZ ?_
  refine WA ?_
  refine aw_loopw (fun n F H => ∃ k : Nat, n + k = l.length ∧ (l.map fun p => p.2).take k = (l'.map fun p => p.2).take k ∧ F = [(1, .c (.r v' (cR l'))), (2, .f (.func 78) []), (15, .c (.r v (cR l))), (16, .c (I (cR l).length)), (17, .c (I k))] ∧ H = []) ?_ ?_
  · refine wk_of [] (fun _ => [(1, .c (.r v' (cR l'))), (2, .f (.func 78) []), (15, .c (.r v (cR l))), (16, .c (I (cR l).length)), (17, .c (I (0 : Nat)))]) (fun _ => _) (by decide) (ZNL hE) ZCF (fun _ => .nil) (fun _ => ?_)
    exact ⟨l.length, 0, by omega, rfl, rfl, rfl⟩
  rintro n F H ⟨k, hk, ht, rfl, rfl⟩
  refine WA ?_
  refine aw_if rfl (fun hlt => ?_) (fun hge => ?_)
  · obtain ⟨p, hp⟩ : ∃ s, l[k]? = some s := ⟨_, List.getElem?_eq_getElem (by omega)⟩
    obtain ⟨p', hp'⟩ : ∃ s', l'[k]? = some s' := ⟨_, List.getElem?_eq_getElem (by omega)⟩
    have hm := hs p (List.mem_of_getElem? hp)
    have hm' := hs' p' (List.mem_of_getElem? hp')
    obtain ⟨pv, ps, pb⟩ := p
    obtain ⟨pv', ps', pb'⟩ := p'
    simp only at hm hm'
    have hrow : (cR l)[k]? = some [.r pv (sR ps), B pb] := by rw [List.getElem?_map, hp]; rfl
    have hrow' : (cR l')[k]? = some [.r pv' (sR ps'), B pb'] := by rw [List.getElem?_map, hp']; rfl
    have hq : (l.map fun p => p.2)[k]? = some (ps, pb) := by rw [List.getElem?_map, hp]; rfl
    have hq' : (l'.map fun p => p.2)[k]? = some (ps', pb') := by rw [List.getElem?_map, hp']; rfl
    refine WA ?_
    refine WA ?_
    refine WR ?_
    refine al_ef rfl (ef_call0 false (fun _ => alike1_v pv pv' ps ps' pb pb' hm hm') rfl (.clo rfl) rfl (by decide) (by kernel_rfl) rfl (fun _ => C0 rfl) (by simp)) ?_
    rintro _ _ ⟨_, _, _, ⟨bb, rfl, rfl, hb⟩, hF, hH⟩
    (try simp only [nsl, Nat.reduceAdd, Nat.reduceLT, Nat.reduceSub] at hF); (try simp only [nsl, Nat.reduceAdd, Nat.reduceLT, Nat.reduceSub] at hH); subst hF; subst hH
    refine WE ?_
    refine aw_cond rfl (fun hn => ?_) (fun he => ?_)
    · refine WA ?_
      refine aret_1 [] _ rfl rfl rfl (by decide) (ZNK rfl) (fun _ => .nil) ⟨_, rfl, rfl, ?_⟩
      simp only [Bool.false_eq_true, false_iff]
      intro e
      rw [e, hq'] at hq
      have h2 := Option.some.inj hq
      rw [hb.2 h2.symm] at hn
      simp at hn
    · have hbt : bb = true := by simpa using he
      have h2 := hb.1 hbt
      refine ZZ ?_
      refine WA ?_
      refine wk_of [] (fun _ => [(1, .c (.r v' (cR l'))), (2, .f (.func 78) []), (15, .c (.r v (cR l))), (16, .c (I (cR l).length)), (17, .c (I (k + 1 : Nat)))]) (fun _ => _) (by decide) (ZNL hE) ZCF (fun _ => .nil) (fun _ => ?_)
      exact ⟨n - 1, by omega, k + 1, by omega, by rw [take_lastk hq, take_lastk hq', ht, h2], rfl, rfl⟩
  refine WA ?_
  refine aret_1 [] _ rfl rfl rfl (by decide) (ZNK rfl) (fun _ => .nil) ⟨_, rfl, rfl, ?_⟩
  rw [List.take_of_length_le (by simp; omega), List.take_of_length_le (by simp; omega)] at ht
  simp only [ht]
end Go.Proofs.YtlblimbelfenaaaGreat

/- Contours, Ends and Alike: the program's and the reference's, by value. -/
-- NEWM
namespace Go.Proofs.YtlblimbelfenaaaGreat
open Go Go.RowKit
set_option maxRecDepth 100000
/- ## Plain: how many, how long; ends -/
theorem Ch.rv {N : Nxt} {f a : Sid2} {l : List Sid2} {c : Bool} (h : Ch N f a l c) : ∀ t, Rv N f (a :: t) → ∃ b t', Rv N f (b :: t') ∧ t'.length = l.length + t.length := by
  induction h with
  | stop _ => intro t hr; exact ⟨_, t, hr, by simp⟩
  | back _ => intro t hr; exact ⟨_, t, hr, by simp⟩
  | go h1 h2 _ ih =>
    intro t hr
    obtain ⟨b, t', h3, h4⟩ := ih _ (.more hr h1 h2)
    exact ⟨b, t', h3, by simp at h4 ⊢; omega⟩
theorem Ch.short {S : List Seg5} (hok : SegOk S) {f : Sid2} {l : List Sid2} {c : Bool} (h : Ch (nxt S) f f l c) : l.length ≤ S.length := by
  obtain ⟨b, t', hr, e⟩ := h.rv [] .one
  have := hr.short hok
  simp at e
  omega
theorem IsConts.small {S : List Seg5} (hok : SegOk S) {cs : List Con} (h : IsConts S cs) : cs.length ≤ S.length ∧ ∀ k ∈ cs, k.1 ≠ [] ∧ k.1.length ≤ S.length + 1 := by
  obtain ⟨l, o1, s1, o2, s2, h1, h2, h3, h4, h5, h6⟩ := h
  have hm : ∀ k ∈ o1 ++ o2, ∃ f r is, k = (f :: r, is) ∧ f ∈ l ∧ ∃ c, Ch (nxt S) f f r c := fun k hk => by
    rcases List.mem_append.1 hk with hk | hk
    · obtain ⟨f, r, e, _, _, m, hc⟩ := h3.heads.2.1 k hk; exact ⟨f, r, _, e, m, hc⟩
    · obtain ⟨f, r, e, _, _, m, hc⟩ := h4.heads.2.1 k hk; exact ⟨f, r, _, e, m, hc⟩
  have hn : ((o1 ++ o2).map fun k => k.1.head?).Nodup := by
    rw [List.map_append, List.nodup_append]
    refine ⟨h3.heads.2.2, h4.heads.2.2, fun x hx y hy e => ?_⟩
    subst e
    obtain ⟨k, hk, e1⟩ := List.mem_map.1 hx
    obtain ⟨k', hk', e2⟩ := List.mem_map.1 hy
    obtain ⟨f, r, rfl, _, m1, _⟩ := h3.heads.2.1 k hk
    obtain ⟨f', r', rfl, m2, _⟩ := h4.heads.2.1 k' hk'
    rw [← e1] at e2
    simp only [List.head?_cons, Option.some.injEq] at e2
    subst e2
    exact m2 m1
  refine ⟨?_, fun k hk => ?_⟩
  · have h7 := hn.length_le_of_subset (l₂ := l.map some) fun x hx => by
      obtain ⟨k, hk, rfl⟩ := List.mem_map.1 hx
      obtain ⟨f, r, is, rfl, m, _⟩ := hm k hk
      exact List.mem_map.2 ⟨f, m, rfl⟩
    have h8 := h1.length_eq
    have h9 := h5.length_eq
    simp only [List.length_map] at h7 h8
    omega
  · obtain ⟨f, r, is, rfl, _, c, hc⟩ := hm k (h5.subset hk)
    have := hc.short hok
    exact ⟨by simp, by simp only [List.length_cons]; omega⟩
def laS (k : Con) : Sid2 := k.1.getLastD ⟨0, 0⟩
/-- The ends of open contours. -/
def endT (cs : List Con) : List Sid2 := cs.flatMap fun k => if k.2 = true then [] else [hdS k, laS k]
def endL (cs : List Con) : List Sid2 := compG (srtS (endT cs))
theorem endT_next {cs : List Con} {j : Nat} {k : Con} (h : cs[j]? = some k) : endT (cs.take (j + 1)) = endT (cs.take j) ++ (if k.2 = true then [] else [hdS k, laS k]) := by
  unfold endT
  rw [List.take_add_one, h, List.flatMap_append]
  simp
theorem endT_len (cs : List Con) : (endT cs).length ≤ 2 * cs.length := by
  induction cs with
  | nil => simp [endT]
  | cons k cs ih =>
    unfold endT at ih ⊢
    rw [List.flatMap_cons, List.length_append, List.length_cons]
    split
    · simp only [List.length_nil]; omega
    · simp only [List.length_cons, List.length_nil]; omega
theorem last_at {D : List Sid2} (h : D ≠ []) : D[D.length - 1]? = some (D.getLastD ⟨0, 0⟩) := by
  rw [← List.getLast?_eq_getElem?, List.getLastD_eq_getLast?]
  cases e : D.getLast? with
  | none => exact absurd (List.getLast?_eq_none_iff.1 e) h
  | some x => rfl
theorem head_at {D : List Sid2} (h : D ≠ []) : D[0]? = some (D.headD ⟨0, 0⟩) := by
  cases D with
  | nil => exact absurd rfl h
  | cons x D => rfl
/-- What the program tells: where a mesh or a plane is wrong, nothing. -/
def ConsP (V : List Vec3) (Fs : List Fac3) (z e : Int) (cs : List Con) : Prop := (e ≠ 0 → cs = []) ∧ (e = 0 → IsConts (sgL V Fs z) cs)
def EndsP (V : List Vec3) (Fs : List Fac3) (z e : Int) (L : List Sid2) : Prop := (e ≠ 0 → L = []) ∧ (e = 0 → ∃ cs, IsConts (sgL V Fs z) cs ∧ L = endL cs)
def AlkP (V : List Vec3) (Fs : List Fac3) (z y e : Int) (b : Bool) : Prop := (e ≠ 0 → b = false) ∧ (e = 0 → ∃ cs cs', IsConts (sgL V Fs z) cs ∧ IsConts (sgL V Fs y) cs' ∧ (b = true ↔ cs = cs'))

/- ## The walks -/
set_option maxHeartbeats 4000000 in
theorem contoursP_v (v w : Value) (V : List Vec3) (Fs : List Fac3) (z : Int) (hVl : V.length ≤ 1000000) (hFl : Fs.length ≤ 1000000) : ACalls Tryz.prog 21 [mshA v w V Fs, .c (I z)] [] fun u H => ∃ (q1 q2 : Value) (l : List (Value × Con)), u = .t [.c (.r q1 (sidR l)), .c (.r q2 (cloR l)), .c (I (pltF V Fs [z]))] ∧ H = [] ∧ ConsP V Fs z (pltF V Fs [z]) (l.map Prod.snd) := by
  refine acalls_of (N := 40) Tryz.func21 rfl rfl (by simp) fun E hE => ?_
  refine WA ?_
  refine WR ?_
  refine al_ef rfl (ef_call0 true (fun g => sfault_v v w (g (.o 1 0 1 1)) V Fs [z] hVl hFl (by simp)) rfl .fn rfl (by decide) (by kernel_rfl) rfl (fun _ => .cons (.aL (C0 rfl)) (.cons (.frz rfl rfl rfl rfl rfl) .nil)) (fun _ _ _ _ ⟨hu, hH⟩ => by rw [hu, hH]; exact ⟨.c (.inl trivial), by simp⟩)) ?_
  rintro _ _ ⟨_, _, _, ⟨rfl, rfl⟩, hF, hH⟩
  (try simp only [nsl, Nat.reduceAdd, Nat.reduceLT, Nat.reduceSub] at hF); (try simp only [nsl, Nat.reduceAdd, Nat.reduceLT, Nat.reduceSub] at hH); subst hF; subst hH
  refine WE ?_
  refine WA ?_
  refine aw_if rfl (fun h0 => ?_) (fun h0 => ?_)
  · refine WA ?_
    exact aret_of (us := [.c (.r (.slice none 0 0) []), .c (.r (.slice none 0 0) []), .c (I (pltF V Fs [z]))]) [] (fun _ => .t [.c (.r (.slice none 0 0) []), .c (.r (.slice none 0 0) []), .c (I (pltF V Fs [z]))]) (fun _ => []) (.tmp rfl (.tmp rfl (.tmp rfl .nil))) (by decide) (ZNK rfl) (fun _ => .tL (C0 rfl)) (fun _ => .nil) (fun _ => ⟨_, _, [], rfl, rfl, fun _ => rfl, fun h => absurd h h0⟩)
  obtain ⟨hM, hz⟩ := pltF_ok (show pltF V Fs [z] = 0 by omega)
  have hlf := hM.lf
  have hok := sgL_ok (z := z) hM
  have hSl := sgL_len V Fs z
  refine ZZ ?_
  refine WA ?_
  refine WA ?_
  refine WR ?_
  refine al_ef rfl (ef_call0 false (fun _ => contours_p v w V Fs z hM) rfl .fn rfl (by decide) (by kernel_rfl) rfl (fun _ => C0 rfl) (by simp)) ?_
  rintro _ _ ⟨_, _, _, ⟨q, l, rfl, rfl, hcon⟩, hF, hH⟩
  (try simp only [nsl, Nat.reduceAdd, Nat.reduceLT, Nat.reduceSub] at hF); (try simp only [nsl, Nat.reduceAdd, Nat.reduceLT, Nat.reduceSub] at hH); subst hF; subst hH
  refine WE ?_
  have hsm := hcon.small hok
  have hl1000 : l.length ≤ 1000 := by have := hsm.1; rw [List.length_map] at this; omega
  clear hsm
  have e5 : (cR l).length = l.length := by simp
  refine aw_loopw (fun m F H => ∃ (j ca cb : Nat) (A C : List (List CV)), m + j = l.length ∧ A.length = j ∧ C.length = j ∧ A = ((l.take j).map fun p => [CV.r p.1 (sR p.2.1)]) ∧ C = ((l.take j).map fun p => [B p.2.2]) ∧ F = [(8, .o 0 0 A.length ca), (9, .o 1 0 C.length cb), (21, .c (.r q (cR l))), (22, .c (I (cR l).length)), (23, .c (I j))] ∧ H = [.arr 57 1 ca A, .arr 4 1 cb C]) ?_ ?_
  · refine wk_of [none, none] (fun _ => [(8, .o 0 0 0 0), (9, .o 1 0 0 0), (21, .c (.r q (cR l))), (22, .c (I (cR l).length)), (23, .c (I (0 : Nat)))]) (fun _ => [.arr 57 1 0 [], .arr 4 1 0 []]) (by decide) (ZNL hE) ZCF ZCH (fun _ => ?_)
    exact ⟨l.length, 0, 0, 0, [], [], by omega, rfl, rfl, rfl, rfl, rfl, rfl⟩
  rintro m F H ⟨j, ca, cb, A, C, hj, hAl, hCl, hA, hC, rfl, rfl⟩
  refine WA ?_
  refine aw_if rfl (fun hlt => ?_) (fun hge => ?_)
  · obtain ⟨p, hp⟩ : ∃ z, l[j]? = some z := ⟨_, List.getElem?_eq_getElem (by omega)⟩
    have ht := take_snoc hp
    obtain ⟨pv, ps, pb⟩ := p
    have hrow : (cR l)[j]? = some [.r pv (sR ps), B pb] := by rw [List.getElem?_map, hp]; rfl
    refine WA ?_
    refine ZZ ?_
    refine aw_regionM [[(0, none), (1, none), (2, none), (5, none), (6, none), (7, none), (3, some [0, 5, 6, 7]), (4, some [5, 6, 7]), (8, some [0, 1, 2, 5]), (9, some []), (10, none), (11, none)], [(0, none), (1, none), (2, none), (5, none), (6, none), (7, none), (3, some [0, 5, 6, 7]), (8, some [0, 1, 2, 5]), (4, some [5, 6, 7]), (9, some []), (10, none), (11, none)], [(0, none), (1, none), (2, none), (5, none), (6, none), (7, none), (8, some [0, 1, 2, 5]), (3, some [0, 5, 6, 7]), (4, some [5, 6, 7]), (9, some []), (10, none), (11, none)]] hMixed (by kernel_rfl) ?_
    focus
      refine WM ?_
      refine am_two (by rfl) (by rfl) (by rfl) ?_ ?_
      rotate_left
      refine WM ?_
      refine am_ef (i := 4) (by rfl) (by rfl) rfl rfl (Zapp (KA (t := 53) rfl)) ?_
      rintro _ _ ⟨_, cc, hcc, rfl, rfl⟩
      refine ⟨AGX, ?_⟩
      refine am_ef (i := 9) (by rfl) (by rfl) rfl rfl (Zapp (KA (t := 54) rfl)) ?_
      rintro _ _ ⟨_, cc, hcc, rfl, rfl⟩
      refine ⟨AGX, ?_⟩
      refine WN ?_
      rotate_right
      refine WM ?_
      refine am_two (by rfl) (by rfl) (by rfl) ?_ ?_
      rotate_left
      refine WM ?_
      refine am_ef (i := 4) (by rfl) (by rfl) rfl rfl (Zapp (KA (t := 53) rfl)) ?_
      rintro _ _ ⟨_, cc, hcc, rfl, rfl⟩
      refine ⟨AGX, ?_⟩
      refine am_ef (i := 9) (by rfl) (by rfl) rfl rfl (Zapp (KA (t := 54) rfl)) ?_
      rintro _ _ ⟨_, cc, hcc, rfl, rfl⟩
      refine ⟨AGX, ?_⟩
      refine WN ?_
      rotate_right
      refine am_ef (i := 4) (by rfl) (by rfl) rfl rfl (Zapp (KA (t := 53) rfl)) ?_
      rintro _ _ ⟨_, cc, hcc, rfl, rfl⟩
      refine ⟨AGX, ?_⟩
      refine WM ?_
      refine am_ef (i := 9) (by rfl) (by rfl) rfl rfl (Zapp (KA (t := 54) rfl)) ?_
      rintro _ _ ⟨_, cc, hcc, rfl, rfl⟩
      refine ⟨AGX, ?_⟩
      refine WN ?_
    all_goals (refine WA ?_)
    all_goals (refine wk_of [some 0, some 1] (fun _ => [(8, .o 0 0 (A ++ [[CV.r pv (sR ps)]]).length _), (9, .o 1 0 (C ++ [[B pb]]).length _), (21, .c (.r q (cR l))), (22, .c (I (cR l).length)), (23, .c (I (j + 1 : Nat)))]) (fun _ => _) (by decide) (ZNL hE) ZCF ZCH (fun _ => ?_))
    all_goals (exact ⟨m - 1, by omega, j + 1, _, _, A ++ [[CV.r pv (sR ps)]], C ++ [[B pb]], by omega, by simp; omega, by simp; omega, by rw [ht, hA]; simp, by rw [ht, hC]; simp, rfl, rfl⟩)
  obtain rfl : l.length = j := by omega
  rw [List.take_of_length_le (Nat.le_refl _)] at hA hC
  refine ZZ ?_
  refine WA ?_
  exact aret_of (us := [.o 0 0 A.length ca, .o 1 0 C.length cb, .c (I 0)]) [] (fun g => .t [.c (.r (g (.o 0 0 A.length ca)) A), .c (.r (g (.o 1 0 C.length cb)) C), .c (I 0)]) (fun _ => []) (.tmp rfl (.tmp rfl (.tmp rfl .nil))) (by decide) (ZNK rfl) (fun _ => .tL (.cons (.frz rfl rfl (by rw [List.drop_zero, List.take_length]) rfl rfl) (.cons (.frz rfl rfl (by rw [List.drop_zero, List.take_length]) rfl rfl) (.cons (.c rfl) .nil)))) (fun _ => .nil) (fun g => ⟨_, _, l, by rw [hA, hC, show pltF V Fs [z] = 0 by omega], rfl, fun h => absurd h h0, fun _ => hcon⟩)
end Go.Proofs.YtlblimbelfenaaaGreat
