/- Running programs, by value. -/
import Derived.Test.YtdmeohgojdfmoaaGreatDoorRb
import Derived.Test.YtdmeohgojdfmoaaGreatDoorPvl
import Derived.Test.YtdmeohgojdfmoaaGreatDoorPvm
set_option linter.unusedSimpArgs false
set_option linter.unusedVariables false
/- The reference's status after a step, by value. -/
namespace Go.Proofs.YtdmeohgojdfmoaaGreatDoor
open Go Go.RowKit
set_option maxRecDepth 100000
structure Mach where
  x : Int
  y : Int
  z : Int
  sp : Int
  he : Int
  tl : Int
  fl : Int
  rel : Bool
abbrev Mach.row (m : Mach) : List CV := [I m.x, I m.y, I m.z, I m.sp, I m.he, I m.tl, I m.fl, B m.rel]
abbrev Mach.zero : Mach := ⟨0, 0, 0, 0, 0, 0, 0, false⟩
def relS (r : Bool) (a b : Int) : Int := if r = true then wrap64 (a + b) else b
/-- The status after a step. -/
def afterS (m : Mach) (s : Step) : Mach :=
  if s.k = 1 then { m with rel := false }
  else if s.k = 2 then { m with rel := true }
  else if s.k = 3 ∨ s.k = 4 then { m with x := relS m.rel m.x s.x, y := relS m.rel m.y s.y, fl := wrap64 (m.fl + s.f) }
  else if s.k = 5 then { m with z := relS m.rel m.z s.z }
  else if s.k = 6 then { m with sp := s.n }
  else if s.k = 8 then { m with he := s.n }
  else if s.k = 9 then { m with tl := s.n }
  else m
end Go.Proofs.YtdmeohgojdfmoaaGreatDoor

/- The reference's last status, runs and absolute forms, by value. -/
namespace Go.Proofs.YtdmeohgojdfmoaaGreatDoor
open Go Go.RowKit
set_option maxRecDepth 100000
def lastS (l : List Step) : Mach := l.foldl afterS Mach.zero
def runsS (l : List Step) : List Mach := (List.range l.length).map fun i => lastS (l.take (i + 1))
theorem drop_cons {α : Type} {l : List α} {k : Nat} {s : α} (h : l[k]? = some s) : l.drop k = s :: l.drop (k + 1) := by
  obtain ⟨hk, hs⟩ := List.getElem?_eq_some_iff.1 h
  rw [List.drop_eq_getElem_cons hk, hs]
theorem runs_next (l : List Step) (k : Nat) : (List.range (k + 1)).map (fun i => lastS (l.take (i + 1))) = (List.range k).map (fun i => lastS (l.take (i + 1))) ++ [lastS (l.take (k + 1))] := by
  rw [List.range_succ, List.map_append]; rfl
def absStep (m : Mach) (s : Step) : Step :=
  if s.k = 3 ∨ s.k = 4 then { s with x := m.x, y := m.y } else if s.k = 5 then { s with z := m.z } else s
def absFrom : Mach → List Step → List Step
  | _, [] => []
  | m, s :: l => if s.k = 1 ∨ s.k = 2 then absFrom (afterS m s) l else absStep (afterS m s) s :: absFrom (afterS m s) l
def absS (l : List Step) : List Step := absFrom Mach.zero l
theorem absFrom_len : ∀ (l : List Step) (m : Mach), (absFrom m l).length ≤ l.length
  | [], _ => Nat.le_refl _
  | s :: l, m => by
    unfold absFrom
    split
    · have := absFrom_len l (afterS m s); simp; omega
    · have := absFrom_len l (afterS m s); simp; omega
end Go.Proofs.YtdmeohgojdfmoaaGreatDoor

/- The reference's absolute forms and moments, by value. -/
namespace Go.Proofs.YtdmeohgojdfmoaaGreatDoor
open Go Go.RowKit
set_option maxRecDepth 100000
/-- A status with a wait. -/
structure Wt where
  m : Mach
  t : Int
abbrev Wt.row (d : Wt) : List CV := [I d.m.x, I d.m.y, I d.m.z, I d.m.sp, I d.m.he, I d.m.tl, I d.m.fl, B d.m.rel, I d.t]
structure MSt where
  out : List Wt
  now : Mach
  wait : Int
abbrev Mach.abs (m : Mach) : Mach := ⟨m.x, m.y, m.z, m.sp, m.he, m.tl, m.fl, false⟩
def waitS (wait : Int) (s : Step) : Int := if s.k = 7 then wrap64 (wait + s.n) else wait
def Mach.eq (a b : Mach) : Prop := a.x = b.x ∧ a.y = b.y ∧ a.z = b.z ∧ a.sp = b.sp ∧ a.he = b.he ∧ a.tl = b.tl ∧ a.fl = b.fl ∧ a.rel = b.rel
instance (a b : Mach) : Decidable (a.eq b) := by unfold Mach.eq; infer_instance
theorem Mach.eq_iff {a b : Mach} : a.eq b ↔ a = b := by
  obtain ⟨a1, a2, a3, a4, a5, a6, a7, a8⟩ := a
  obtain ⟨b1, b2, b3, b4, b5, b6, b7, b8⟩ := b
  simp [Mach.eq]
def stepMS (st : MSt) (s : Step) (is : Mach) : MSt :=
  if is.abs.eq st.now then ⟨st.out, st.now, waitS st.wait s⟩ else ⟨st.out ++ [⟨is.abs, waitS st.wait s⟩], is.abs, 0⟩
def momS (l : List Step) : Nat → MSt
  | 0 => ⟨[], Mach.zero, 0⟩
  | k + 1 => match l[k]? with
    | some s => stepMS (momS l k) s (lastS (l.take (k + 1)))
    | none => momS l k
theorem momS_succ {l : List Step} {k : Nat} {s : Step} (h : l[k]? = some s) : momS l (k + 1) = stepMS (momS l k) s (lastS (l.take (k + 1))) := by
  simp only [momS, h]
end Go.Proofs.YtdmeohgojdfmoaaGreatDoor

/- slices.Equal, by value. -/
namespace Go.Proofs.YtdmeohgojdfmoaaGreatDoor
open Go Go.RowKit
set_option maxRecDepth 100000
theorem wt_eq {a b : Wt} : (a.m.x = b.m.x ∧ a.m.y = b.m.y ∧ a.m.z = b.m.z ∧ a.m.sp = b.m.sp ∧ a.m.he = b.m.he ∧ a.m.tl = b.m.tl ∧ a.m.fl = b.m.fl ∧ a.m.rel = b.m.rel ∧ a.t = b.t) ↔ a = b := by
  obtain ⟨⟨a1, a2, a3, a4, a5, a6, a7, a8⟩, a9⟩ := a
  obtain ⟨⟨b1, b2, b3, b4, b5, b6, b7, b8⟩, b9⟩ := b
  simp [and_assoc]
theorem step_eq {a b : Step} : (a.k = b.k ∧ a.x = b.x ∧ a.y = b.y ∧ a.z = b.z ∧ a.f = b.f ∧ a.n = b.n) ↔ a = b := by
  obtain ⟨a1, a2, a3, a4, a5, a6⟩ := a
  obtain ⟨b1, b2, b3, b4, b5, b6⟩ := b
  simp
theorem take_next {α : Type} {l : List α} {k : Nat} {s : α} (h : l[k]? = some s) : l.take (k + 1) = l.take k ++ [s] := by
  rw [List.take_add_one, h]; rfl
theorem eqM_a (l l' : List Mach) (v v' : Value) (hl : l.length ≤ 1000000000) (hl' : l'.length ≤ 1000000000) : ACalls Tryz.prog 36 [.c (.r v (l.map Mach.row)), .c (.r v' (l'.map Mach.row))] [] fun u H => ∃ b : Bool, u = .c (B b) ∧ H = [] ∧ (b = true ↔ l = l') := by
  have e1 : (l.map Mach.row).length = l.length := by simp
  have e2 : (l'.map Mach.row).length = l'.length := by simp
  refine acalls_of (N := 26) Tryz.func36 rfl rfl (by simp) fun E hE => ?_
  refine WA ?_
  refine WA ?_
  refine aw_if rfl (fun hne => ?_) (fun heq => ?_)
  · refine WA ?_
    exact aret_1 [] _ rfl rfl rfl (by decide) (ZNK rfl) (fun _ => .nil) ⟨_, rfl, rfl, by simp; intro e; rw [e] at hne; omega⟩
  refine ZZ ?_
  refine WA ?_
  refine aw_loopw (fun n F H => ∃ k : Nat, n + k = l.length ∧ l.take k = l'.take k ∧ F = [(0, .c (.r v (l.map Mach.row))), (1, .c (.r v' (l'.map Mach.row))), (12, .c (I (l.map Mach.row).length)), (13, .c (I k))] ∧ H = []) ?_ ?_
  · refine wk_of [] (fun _ => [(0, .c (.r v (l.map Mach.row))), (1, .c (.r v' (l'.map Mach.row))), (12, .c (I (l.map Mach.row).length)), (13, .c (I (0 : Nat)))]) (fun _ => _) (by decide) (ZNL hE) ZCF (fun _ => .nil) (fun _ => ?_)
    exact ⟨l.length, 0, by omega, rfl, rfl, rfl⟩
  rintro n F H ⟨k, hk, ht, rfl, rfl⟩
  refine WA ?_
  refine aw_if rfl (fun hlt => ?_) (fun hge => ?_)
  · obtain ⟨s, hs⟩ : ∃ s, l[k]? = some s := ⟨_, List.getElem?_eq_getElem (by omega)⟩
    obtain ⟨s', hs'⟩ : ∃ s', l'[k]? = some s' := ⟨_, List.getElem?_eq_getElem (by omega)⟩
    have hrow : (l.map Mach.row)[k]? = some (Mach.row s) := by rw [List.getElem?_map, hs]; rfl
    have hrow' : (l'.map Mach.row)[k]? = some (Mach.row s') := by rw [List.getElem?_map, hs']; rfl
    refine WA ?_
    refine ZZ ?_
    refine aw_regionT [(0, none), (1, none), (2, none), (3, none), (4, none), (5, none), (6, none), (7, none), (8, none)] hMixed (by kernel_rfl) ?_
    refine WQ ?_
    refine aw_if rfl (fun hn => ?_) (fun he => ?_)
    · refine WA ?_
      refine aret_1 [] _ rfl rfl rfl (by decide) (ZNK rfl) (fun _ => .nil) ⟨_, rfl, rfl, ?_⟩
      simp only [Bool.false_eq_true, false_iff]
      intro e
      subst e
      rw [hs] at hs'
      exact hn (Mach.eq_iff.2 (Option.some.inj hs'))
    · refine ZZ ?_
      refine WA ?_
      refine wk_of [] (fun _ => [(0, .c (.r v (l.map Mach.row))), (1, .c (.r v' (l'.map Mach.row))), (12, .c (I (l.map Mach.row).length)), (13, .c (I (k + 1 : Nat)))]) (fun _ => _) (by decide) (ZNL hE) ZCF (fun _ => .nil) (fun _ => ?_)
      exact ⟨n - 1, by omega, k + 1, by omega, by rw [take_next hs, take_next hs', ht, Mach.eq_iff.1 (Decidable.not_not.1 he)], rfl, rfl⟩
  refine WA ?_
  refine aret_1 [] _ rfl rfl rfl (by decide) (ZNK rfl) (fun _ => .nil) ⟨_, rfl, rfl, ?_⟩
  rw [List.take_of_length_le (by omega), List.take_of_length_le (by omega)] at ht
  simp [ht]
theorem eqD_a (l l' : List Wt) (v v' : Value) (hl : l.length ≤ 1000000000) (hl' : l'.length ≤ 1000000000) : ACalls Tryz.prog 105 [.c (.r v (l.map Wt.row)), .c (.r v' (l'.map Wt.row))] [] fun u H => ∃ b : Bool, u = .c (B b) ∧ H = [] ∧ (b = true ↔ l = l') := by
  have e1 : (l.map Wt.row).length = l.length := by simp
  have e2 : (l'.map Wt.row).length = l'.length := by simp
  refine acalls_of (N := 26) Tryz.func105 rfl rfl (by simp) fun E hE => ?_
  refine WA ?_
  refine WA ?_
  refine aw_if rfl (fun hne => ?_) (fun heq => ?_)
  · refine WA ?_
    exact aret_1 [] _ rfl rfl rfl (by decide) (ZNK rfl) (fun _ => .nil) ⟨_, rfl, rfl, by simp; intro e; rw [e] at hne; omega⟩
  refine ZZ ?_
  refine WA ?_
  refine aw_loopw (fun n F H => ∃ k : Nat, n + k = l.length ∧ l.take k = l'.take k ∧ F = [(0, .c (.r v (l.map Wt.row))), (1, .c (.r v' (l'.map Wt.row))), (12, .c (I (l.map Wt.row).length)), (13, .c (I k))] ∧ H = []) ?_ ?_
  · refine wk_of [] (fun _ => [(0, .c (.r v (l.map Wt.row))), (1, .c (.r v' (l'.map Wt.row))), (12, .c (I (l.map Wt.row).length)), (13, .c (I (0 : Nat)))]) (fun _ => _) (by decide) (ZNL hE) ZCF (fun _ => .nil) (fun _ => ?_)
    exact ⟨l.length, 0, by omega, rfl, rfl, rfl⟩
  rintro n F H ⟨k, hk, ht, rfl, rfl⟩
  refine WA ?_
  refine aw_if rfl (fun hlt => ?_) (fun hge => ?_)
  · obtain ⟨s, hs⟩ : ∃ s, l[k]? = some s := ⟨_, List.getElem?_eq_getElem (by omega)⟩
    obtain ⟨s', hs'⟩ : ∃ s', l'[k]? = some s' := ⟨_, List.getElem?_eq_getElem (by omega)⟩
    have hrow : (l.map Wt.row)[k]? = some (Wt.row s) := by rw [List.getElem?_map, hs]; rfl
    have hrow' : (l'.map Wt.row)[k]? = some (Wt.row s') := by rw [List.getElem?_map, hs']; rfl
    refine WA ?_
    refine ZZ ?_
    refine aw_regionT [(0, none), (1, none), (2, none), (3, none), (4, none), (5, none), (6, none), (7, none), (8, none)] hMixed (by kernel_rfl) ?_
    refine WQ ?_
    refine aw_if rfl (fun hn => ?_) (fun he => ?_)
    · refine WA ?_
      refine aret_1 [] _ rfl rfl rfl (by decide) (ZNK rfl) (fun _ => .nil) ⟨_, rfl, rfl, ?_⟩
      simp only [Bool.false_eq_true, false_iff]
      intro e
      subst e
      rw [hs] at hs'
      exact hn (wt_eq.2 (Option.some.inj hs'))
    · refine ZZ ?_
      refine WA ?_
      refine wk_of [] (fun _ => [(0, .c (.r v (l.map Wt.row))), (1, .c (.r v' (l'.map Wt.row))), (12, .c (I (l.map Wt.row).length)), (13, .c (I (k + 1 : Nat)))]) (fun _ => _) (by decide) (ZNL hE) ZCF (fun _ => .nil) (fun _ => ?_)
      exact ⟨n - 1, by omega, k + 1, by omega, by rw [take_next hs, take_next hs', ht, wt_eq.1 (Decidable.not_not.1 he)], rfl, rfl⟩
  refine WA ?_
  refine aret_1 [] _ rfl rfl rfl (by decide) (ZNK rfl) (fun _ => .nil) ⟨_, rfl, rfl, ?_⟩
  rw [List.take_of_length_le (by omega), List.take_of_length_le (by omega)] at ht
  simp [ht]
theorem eqS_a (l l' : List Step) (v v' : Value) (hl : l.length ≤ 1000000000) (hl' : l'.length ≤ 1000000000) : ACalls Tryz.prog 47 [.c (.r v (l.map Step.row)), .c (.r v' (l'.map Step.row))] [] fun u H => ∃ b : Bool, u = .c (B b) ∧ H = [] ∧ (b = true ↔ l = l') := by
  have e1 : (l.map Step.row).length = l.length := by simp
  have e2 : (l'.map Step.row).length = l'.length := by simp
  refine acalls_of (N := 26) Tryz.func47 rfl rfl (by simp) fun E hE => ?_
  refine WA ?_
  refine WA ?_
  refine aw_if rfl (fun hne => ?_) (fun heq => ?_)
  · refine WA ?_
    exact aret_1 [] _ rfl rfl rfl (by decide) (ZNK rfl) (fun _ => .nil) ⟨_, rfl, rfl, by simp; intro e; rw [e] at hne; omega⟩
  refine ZZ ?_
  refine WA ?_
  refine aw_loopw (fun n F H => ∃ k : Nat, n + k = l.length ∧ l.take k = l'.take k ∧ F = [(0, .c (.r v (l.map Step.row))), (1, .c (.r v' (l'.map Step.row))), (12, .c (I (l.map Step.row).length)), (13, .c (I k))] ∧ H = []) ?_ ?_
  · refine wk_of [] (fun _ => [(0, .c (.r v (l.map Step.row))), (1, .c (.r v' (l'.map Step.row))), (12, .c (I (l.map Step.row).length)), (13, .c (I (0 : Nat)))]) (fun _ => _) (by decide) (ZNL hE) ZCF (fun _ => .nil) (fun _ => ?_)
    exact ⟨l.length, 0, by omega, rfl, rfl, rfl⟩
  rintro n F H ⟨k, hk, ht, rfl, rfl⟩
  refine WA ?_
  refine aw_if rfl (fun hlt => ?_) (fun hge => ?_)
  · obtain ⟨s, hs⟩ : ∃ s, l[k]? = some s := ⟨_, List.getElem?_eq_getElem (by omega)⟩
    obtain ⟨s', hs'⟩ : ∃ s', l'[k]? = some s' := ⟨_, List.getElem?_eq_getElem (by omega)⟩
    have hrow : (l.map Step.row)[k]? = some (Step.row s) := by rw [List.getElem?_map, hs]; rfl
    have hrow' : (l'.map Step.row)[k]? = some (Step.row s') := by rw [List.getElem?_map, hs']; rfl
    refine WA ?_
    refine ZZ ?_
    refine aw_regionT [(0, none), (1, none), (2, none), (3, none), (4, none), (5, none), (6, none), (7, none), (8, none)] hMixed (by kernel_rfl) ?_
    refine WQ ?_
    refine aw_if rfl (fun hn => ?_) (fun he => ?_)
    · refine WA ?_
      refine aret_1 [] _ rfl rfl rfl (by decide) (ZNK rfl) (fun _ => .nil) ⟨_, rfl, rfl, ?_⟩
      simp only [Bool.false_eq_true, false_iff]
      intro e
      subst e
      rw [hs] at hs'
      exact hn (step_eq.2 (Option.some.inj hs'))
    · refine ZZ ?_
      refine WA ?_
      refine wk_of [] (fun _ => [(0, .c (.r v (l.map Step.row))), (1, .c (.r v' (l'.map Step.row))), (12, .c (I (l.map Step.row).length)), (13, .c (I (k + 1 : Nat)))]) (fun _ => _) (by decide) (ZNL hE) ZCF (fun _ => .nil) (fun _ => ?_)
      exact ⟨n - 1, by omega, k + 1, by omega, by rw [take_next hs, take_next hs', ht, step_eq.1 (Decidable.not_not.1 he)], rfl, rfl⟩
  refine WA ?_
  refine aret_1 [] _ rfl rfl rfl (by decide) (ZNK rfl) (fun _ => .nil) ⟨_, rfl, rfl, ?_⟩
  rw [List.take_of_length_le (by omega), List.take_of_length_le (by omega)] at ht
  simp [ht]
end Go.Proofs.YtdmeohgojdfmoaaGreatDoor

/- The program's status after a step, by value. -/
namespace Go.Proofs.YtdmeohgojdfmoaaGreatDoor
open Go Go.RowKit
set_option maxRecDepth 100000
set_option maxHeartbeats 4000000 in
theorem after_a (m : Mach) (s : Step) (hs : s.ok) : ACalls Tryz.prog 138 [.a (m.row.map .c), .a (s.row.map .c)] [] fun u H => u = .a ((afterS m s).row.map .c) ∧ H = [] := by
  obtain ⟨mx, my, mz, msp, mhe, mtl, mfl, mrel⟩ := m
  obtain ⟨k, x, y, z, f, n⟩ := s
  clear hs
  refine acalls_of (N := 69) Tryz.func138 rfl rfl (by simp) fun E hE => ?_
  refine WA ?_
  refine WR ?_
  refine al_nil ?_
  refine aseq_n ?_
  refine aw_cut (fun F H => ∃ bx bz by_ : Int, bx = relS mrel mx x ∧ by_ = relS mrel my y ∧ bz = relS mrel mz z ∧ F = [(2, .p 0 0 0), (3, .p 1 0 0), (4, .p 2 0 0)] ∧ H = [.box ((⟨mx, my, mz, msp, mhe, mtl, mfl, mrel⟩ : Mach).row.map .c), .box ((⟨k, bx, by_, bz, f, n⟩ : Step).row.map .c), .box (Mach.zero.row.map .c)]) ?_ ?_ wk_aw
  · refine aw_cond rfl (fun h => ?_) (fun h => ?_)
    · refine ZZ ?_
      refine aw_regionT [(0, none), (1, none), (2, none), (3, none), (4, none), (5, none), (6, none), (7, none), (8, none), (9, none), (10, none), (11, none), (12, none), (13, none), (14, none), (15, none), (16, some [7, 8, 9, 12, 13, 14]), (17, none), (18, some [12, 13, 14]), (19, none), (20, some [])] hMixed (by kernel_rfl) ?_
      refine WQ ?_
      all_goals refine wk_of [some 0, some 1, some 2] (fun _ => [(2, .p 0 0 0), (3, .p 1 0 0), (4, .p 2 0 0)]) (fun _ => _) (by decide) (ZNL hE) ZCF ZCH (fun _ => ?_)
      all_goals exact ⟨_, _, _, by simp only [relS, h, if_true]; rw [Int.add_comm], by simp only [relS, h, if_true]; rw [Int.add_comm], by simp only [relS, h, if_true]; rw [Int.add_comm], rfl, rfl⟩
    · refine ZZ ?_
      refine wk_of [some 0, some 1, some 2] (fun _ => [(2, .p 0 0 0), (3, .p 1 0 0), (4, .p 2 0 0)]) (fun _ => _) (by decide) (ZNL hE) ZCF ZCH (fun _ => ?_)
      exact ⟨_, _, _, by simp [relS, h], by simp [relS, h], by simp [relS, h], rfl, rfl⟩
  · rintro F H ⟨bx, bz, by_, hbx, hby, hbz, rfl, rfl⟩
    repeat' (first
      | (with_reducible refine aw_seq ?_) | (with_reducible refine aseq_n ?_) | (with_reducible refine aseq_r ?_) | (with_reducible refine ablk_n ?_) | (with_reducible refine ablk_r ?_) | (with_reducible refine ablk_e ?_) | (with_reducible refine ablk_o rfl ?_) | (with_reducible refine aseq_e ?_) | (with_reducible refine aw_skip ?_) | (with_reducible refine aw_block ?_) | (with_reducible refine aw_ret ?_) | (with_reducible refine aw_exit ?_)
      | refine aw_cond_t rfl ?_ | refine aw_cond_f rfl ?_ | refine aw_if_t rfl (by assumption) ?_ | refine aw_if_f rfl (by assumption) ?_ | refine aw_if rfl (fun _ => ?_) (fun _ => ?_) | refine aw_cond rfl (fun _ => ?_) (fun _ => ?_)
      | (refine aw_region (id := 0) ?_
         refine WE ?_)
      | (refine aw_region (id := 1) ?_
         refine WE ?_)
      | (refine aw_region (id := 3) ?_
         refine WE ?_)
      | (refine aw_region (id := 4) ?_
         refine WE ?_)
      | (refine aw_region (id := 5) ?_
         refine WE ?_)
      | (refine aw_region (id := 6) ?_
         refine WE ?_)
      | (refine aw_region (id := 7) ?_
         refine WE ?_)
      | (refine aw_region (id := 8) ?_
         refine WE ?_)
      | (refine aw_region (id := 9) ?_
         refine WE ?_)
      | (refine aw_regionT (id := 10) [(0, none), (1, none), (2, none), (3, none), (4, none), (5, some [2, 3]), (6, none), (7, some [])] hMixed (by kernel_rfl) ?_
         refine WQ ?_)
      | (refine aw_region (id := 11) ?_
         refine WE ?_)
      | (refine aw_region (id := 12) ?_
         refine WE ?_)
      | (refine aw_region (id := 13) ?_
         refine WE ?_)
      | (refine aw_region (id := 14) ?_
         refine WE ?_)
      | (refine aw_region (id := 15) ?_
         refine WE ?_)
      | (refine aw_region (id := 16) ?_
         refine WE ?_)
      | (refine aw_region (id := 17) ?_
         refine WE ?_)
      | (refine aw_region (id := 18) ?_
         refine WE ?_)
      | (refine aw_region (id := 19) ?_
         refine WE ?_)
      | (refine aw_region (id := 20) ?_
         refine WE ?_))
    all_goals (refine aret_a [] _ rfl (KK (t := 60) rfl) rfl (Cells.box rfl) (by simp) (by (try simp only [nm, putL, Nat.reduceAdd, cellsOf, cvOf]) <;> rfl) (by decide) (ZNK rfl) (fun _ => C0 rfl) (fun _ => .nil) ⟨?_, rfl⟩)
    all_goals (clear hE; subst hbx hby hbz; try dsimp only at *)
    all_goals first
      | (exfalso; omega)
      | simp [afterS, *]
end Go.Proofs.YtdmeohgojdfmoaaGreatDoor

/- The program's faults of steps, by value. -/
namespace Go.Proofs.YtdmeohgojdfmoaaGreatDoor
open Go Go.RowKit
set_option maxRecDepth 100000
theorem outside_a (n lo hi : Int) : ACalls Tryz.prog 79 [.c (I n), .c (I lo), .c (I hi)] [] fun u H => ∃ b : Bool, u = .c (B b) ∧ H = [] ∧ (b = false → lo ≤ n ∧ n ≤ hi) ∧ (b = true → n < lo ∨ hi < n) := by
  refine acalls_of (N := 15) Tryz.func79 rfl rfl (by simp) fun E hE => ?_
  by_cases h1 : n < lo
  · repeat' (first
      | (with_reducible refine aw_seq ?_) | (with_reducible refine aseq_n ?_) | (with_reducible refine aseq_r ?_) | (with_reducible refine ablk_n ?_) | (with_reducible refine ablk_r ?_) | (with_reducible refine ablk_e ?_) | (with_reducible refine ablk_o rfl ?_) | (with_reducible refine aseq_e ?_) | (with_reducible refine aw_skip ?_) | (with_reducible refine aw_block ?_) | (with_reducible refine aw_ret ?_) | (with_reducible refine aw_exit ?_)
      | refine aw_cond_t rfl ?_ | refine aw_cond_f rfl ?_ | refine aw_if_t rfl (by assumption) ?_ | refine aw_if_f rfl (by assumption) ?_ | refine aw_if rfl (fun _ => ?_) (fun _ => ?_) | refine aw_cond rfl (fun _ => ?_) (fun _ => ?_)
      | (refine aw_region ?_; refine WE ?_))
    refine aret_1 [] _ rfl rfl rfl (by decide) (ZNK rfl) (fun _ => .nil) ?_
    exact ⟨_, rfl, rfl, by simp, by simp; omega⟩
  · by_cases h2 : hi < n
    · repeat' (first
        | (with_reducible refine aw_seq ?_) | (with_reducible refine aseq_n ?_) | (with_reducible refine aseq_r ?_) | (with_reducible refine ablk_n ?_) | (with_reducible refine ablk_r ?_) | (with_reducible refine ablk_e ?_) | (with_reducible refine ablk_o rfl ?_) | (with_reducible refine aseq_e ?_) | (with_reducible refine aw_skip ?_) | (with_reducible refine aw_block ?_) | (with_reducible refine aw_ret ?_) | (with_reducible refine aw_exit ?_)
        | refine aw_cond_t rfl ?_ | refine aw_cond_f rfl ?_ | refine aw_if_t rfl (by assumption) ?_ | refine aw_if_f rfl (by assumption) ?_ | refine aw_if rfl (fun _ => ?_) (fun _ => ?_) | refine aw_cond rfl (fun _ => ?_) (fun _ => ?_)
        | (refine aw_region ?_; refine WE ?_))
      refine aret_1 [] _ rfl rfl rfl (by decide) (ZNK rfl) (fun _ => .nil) ?_
      exact ⟨_, rfl, rfl, by simp, by simp; omega⟩
    · repeat' (first
        | (with_reducible refine aw_seq ?_) | (with_reducible refine aseq_n ?_) | (with_reducible refine aseq_r ?_) | (with_reducible refine ablk_n ?_) | (with_reducible refine ablk_r ?_) | (with_reducible refine ablk_e ?_) | (with_reducible refine ablk_o rfl ?_) | (with_reducible refine aseq_e ?_) | (with_reducible refine aw_skip ?_) | (with_reducible refine aw_block ?_) | (with_reducible refine aw_ret ?_) | (with_reducible refine aw_exit ?_)
        | refine aw_cond_t rfl ?_ | refine aw_cond_f rfl ?_ | refine aw_if_t rfl (by assumption) ?_ | refine aw_if_f rfl (by assumption) ?_ | refine aw_if rfl (fun _ => ?_) (fun _ => ?_) | refine aw_cond rfl (fun _ => ?_) (fun _ => ?_)
        | (refine aw_region ?_; refine WE ?_))
      refine aret_1 [] _ rfl rfl rfl (by decide) (ZNK rfl) (fun _ => .nil) ?_
      exact ⟨_, rfl, rfl, by simp; omega, by simp⟩
theorem iskind_a (n : Int) : ACalls Tryz.prog 171 [.c (I n)] [] fun u H => ∃ b : Bool, u = .c (B b) ∧ H = [] ∧ (b = true → 1 ≤ n ∧ n ≤ 9) ∧ (b = false → n < 1 ∨ 9 < n) := by
  refine acalls_of (N := 6) Tryz.func171 rfl rfl (by simp) fun E hE => ?_
  refine WA ?_
  refine WR ?_
  refine al_ef rfl (ef_call0 false (fun _ => outside_a _ _ _) rfl .fn rfl (by decide) (by kernel_rfl) rfl (fun _g => .cons (.c rfl) (.cons (.c rfl) (.cons (.c rfl) .nil))) (by simp)) ?_
  rintro _ _ ⟨_, _, _, ⟨b, rfl, rfl, hb1, hb2⟩, hF, hH⟩
  (try simp only [nsl, Nat.reduceAdd, Nat.reduceLT, Nat.reduceSub] at hF); (try simp only [nsl, Nat.reduceAdd, Nat.reduceLT, Nat.reduceSub] at hH); subst hF; subst hH
  cases b
  all_goals (simp only [true_implies, false_implies, reduceCtorEq] at hb1 hb2)
  all_goals (refine WE ?_)
  all_goals (refine aret_1 [] _ rfl rfl rfl (by decide) (ZNK rfl) (fun _ => .nil) ?_)
  all_goals exact ⟨_, rfl, rfl, by simp; try omega, by simp; try omega⟩
theorem isplace_a (n : Int) : ACalls Tryz.prog 173 [.c (I n)] [] fun u H => ∃ b : Bool, u = .c (B b) ∧ H = [] ∧ (b = true → -200000 ≤ n ∧ n ≤ 200000) ∧ (b = false → n < -200000 ∨ 200000 < n) := by
  refine acalls_of (N := 6) Tryz.func173 rfl rfl (by simp) fun E hE => ?_
  refine WA ?_
  refine WR ?_
  refine al_ef rfl (ef_call0 false (fun _ => outside_a _ _ _) rfl .fn rfl (by decide) (by kernel_rfl) rfl (fun _g => .cons (.c rfl) (.cons (.c rfl) (.cons (.c rfl) .nil))) (by simp)) ?_
  rintro _ _ ⟨_, _, _, ⟨b, rfl, rfl, hb1, hb2⟩, hF, hH⟩
  (try simp only [nsl, Nat.reduceAdd, Nat.reduceLT, Nat.reduceSub] at hF); (try simp only [nsl, Nat.reduceAdd, Nat.reduceLT, Nat.reduceSub] at hH); subst hF; subst hH
  cases b
  all_goals (simp only [true_implies, false_implies, reduceCtorEq] at hb1 hb2)
  all_goals (refine WE ?_)
  all_goals (refine aret_1 [] _ rfl rfl rfl (by decide) (ZNK rfl) (fun _ => .nil) ?_)
  all_goals exact ⟨_, rfl, rfl, by simp; try omega, by simp; try omega⟩
structure Form where
  w : ByteArray
  pl : Bool
  fl : Bool
  zz : Bool
  nn : Bool
  lo : Int
  hi : Int
abbrev Form.row (f : Form) : List CV := [.s (.string f.w), B f.pl, B f.fl, B f.zz, B f.nn, I f.lo, I f.hi]
def formL : List Form := [⟨ByteArray.empty, false, false, false, false, 0, 0⟩, ⟨⟨#[97, 98, 115, 111, 108, 117, 116, 101]⟩, false, false, false, false, 0, 0⟩, ⟨⟨#[114, 101, 108, 97, 116, 105, 118, 101]⟩, false, false, false, false, 0, 0⟩,
  ⟨⟨#[109, 111, 118, 101]⟩, true, false, false, false, 0, 0⟩, ⟨⟨#[112, 114, 105, 110, 116]⟩, true, true, false, false, 0, 0⟩, ⟨⟨#[108, 97, 121, 101, 114]⟩, false, false, true, false, 0, 0⟩,
  ⟨⟨#[115, 112, 101, 101, 100]⟩, false, false, false, true, 1, 100000⟩, ⟨⟨#[119, 97, 105, 116]⟩, false, false, false, true, 0, 10000000⟩, ⟨⟨#[104, 101, 97, 116]⟩, false, false, false, true, 0, 500⟩, ⟨⟨#[116, 111, 111, 108]⟩, false, false, false, true, 0, 9⟩]
theorem forms_a : ACalls Tryz.prog 172 [] [] fun u H => ∃ v, u = .c (.r v (formL.map Form.row)) ∧ H = [] := by
  refine acalls_of (N := 12) Tryz.func172 rfl rfl (by simp) fun E hE => ?_
  refine WA ?_
  refine WA ?_
  exact aret_f1 [] [] rfl rfl rfl rfl rfl rfl (by decide) (by decide) (ZNK rfl) (fun _ => .nil) (fun v' => ⟨v', rfl, rfl⟩)
end Go.Proofs.YtdmeohgojdfmoaaGreatDoor

/- The program's faults of a step, by value. -/
namespace Go.Proofs.YtdmeohgojdfmoaaGreatDoor
open Go Go.RowKit
set_option maxRecDepth 100000
def formOk (k : Int) (f : Form) : Prop :=
  (f.pl = true ↔ k = 3 ∨ k = 4) ∧ (f.fl = true ↔ k = 4) ∧ (f.zz = true ↔ k = 5) ∧ (f.nn = true ↔ 6 ≤ k) ∧ (k = 6 → f.lo = 1 ∧ f.hi = 100000) ∧ (k = 7 → f.lo = 0 ∧ f.hi = 10000000) ∧ (k = 8 → f.lo = 0 ∧ f.hi = 500) ∧ (k = 9 → f.lo = 0 ∧ f.hi = 9)
theorem form_get {k : Int} (h1 : 1 ≤ k) (h9 : k ≤ 9) : ∃ (i : Nat) (f : Form), k = i ∧ formL[i]? = some f ∧ formOk k f := by
  obtain ⟨i, rfl⟩ : ∃ i : Nat, k = i := ⟨k.toNat, by omega⟩
  have : i < 10 := by omega
  have h0 : 1 ≤ i := by omega
  match i, this, h0 with
  | 1, _, _ => exact ⟨_, _, rfl, rfl, by simp [formOk]⟩
  | 2, _, _ => exact ⟨_, _, rfl, rfl, by simp [formOk]⟩
  | 3, _, _ => exact ⟨_, _, rfl, rfl, by simp [formOk]⟩
  | 4, _, _ => exact ⟨_, _, rfl, rfl, by simp [formOk]⟩
  | 5, _, _ => exact ⟨_, _, rfl, rfl, by simp [formOk]⟩
  | 6, _, _ => exact ⟨_, _, rfl, rfl, by simp [formOk]⟩
  | 7, _, _ => exact ⟨_, _, rfl, rfl, by simp [formOk]⟩
  | 8, _, _ => exact ⟨_, _, rfl, rfl, by simp [formOk]⟩
  | 9, _, _ => exact ⟨_, _, rfl, rfl, by simp [formOk]⟩
set_option maxHeartbeats 8000000 in
theorem fault_a (s : Step) : ACalls Tryz.prog 137 [.a (s.row.map .c)] [] fun u H => u = .c (I (faultS s)) ∧ H = [] := by
  obtain ⟨k, x, y, z, f, n⟩ := s
  refine acalls_of (N := 90) Tryz.func137 rfl rfl (by simp) fun E hE => ?_
  refine WA ?_
  refine WR ?_
  refine al_ef rfl (ef_call0 false (fun _ => iskind_a _) rfl .fn rfl (by decide) (by kernel_rfl) rfl (fun _g => .cons (.c rfl) .nil) (by simp)) ?_
  rintro _ _ ⟨_, _, _, ⟨b, rfl, rfl, hb1, hb2⟩, hF, hH⟩
  (try simp only [nsl, Nat.reduceAdd, Nat.reduceLT, Nat.reduceSub] at hF); (try simp only [nsl, Nat.reduceAdd, Nat.reduceLT, Nat.reduceSub] at hH); subst hF; subst hH
  cases b
  all_goals (simp only [true_implies, false_implies, reduceCtorEq] at hb1 hb2)
  all_goals (refine WE ?_)
  · refine aw_cond_t rfl ?_
    refine WA ?_
    exact aret_1 [] _ rfl rfl rfl (by decide) (ZNK rfl) (fun _ => .nil) ⟨by rw [faultS, if_pos (by simp only; omega)], rfl⟩
  refine aw_cond_f rfl ?_
  refine ZZ ?_
  obtain ⟨i, fm, hki, hfm, hfok⟩ := form_get hb1.1 hb1.2
  have hrow : (formL.map Form.row)[i]? = some fm.row := by rw [List.getElem?_map, hfm]; rfl
  obtain ⟨w, pl, fl, zz, nn, lo, hi⟩ := fm
  obtain ⟨f1, f2, f3, f4, f5, f6, f7, f8⟩ := hfok
  simp only at f1 f2 f3 f4 f5 f6 f7 f8
  refine aw_cut (fun F H => F = [(1, .p 0 0 0), (3, .p 1 0 0)] ∧ H = [.box ((⟨k, x, y, z, f, n⟩ : Step).row.map .c), .box ((⟨w, pl, fl, zz, nn, lo, hi⟩ : Form).row.map .c)]) ?_ ?_ wk_aw
  · refine ZZ ?_
    refine aw_regionM [[(1, none), (2, none), (0, some [1, 2]), (3, none), (4, none), (5, some [1, 2, 3, 4]), (6, some [])], [(1, none), (2, none), (5, some [1, 2]), (0, some [1, 2]), (3, none), (4, none), (6, some [])]] hMixed (by kernel_rfl) ?_
    focus
      refine ZM (i := 1) (ps' := [[(2, none), (0, some [1, 2]), (3, none), (4, none), (5, some [1, 2, 3, 4]), (6, some [])], [(2, none), (5, some [1, 2]), (0, some [1, 2]), (3, none), (4, none), (6, some [])]]) (by rfl) (by rfl) rfl (ZX (KF (t := 68) (f := 0) rfl rfl)) ?_
      refine ZM (i := 2) (ps' := [[(0, some [1, 2]), (3, none), (4, none), (5, some [1, 2, 3, 4]), (6, some [])], [(5, some [1, 2]), (0, some [1, 2]), (3, none), (4, none), (6, some [])]]) (by rfl) (by rfl) rfl (ZL (KK (t := 3) rfl)) ?_
      refine am_two (ps1 := [[(3, none), (4, none), (5, some [1, 2, 3, 4]), (6, some [])]]) (ps2 := [[(0, some [1, 2]), (3, none), (4, none), (6, some [])]]) (by rfl) (by rfl) (by rfl) ?_ ?_
      rotate_left
      refine ZG (i := 5) (ps' := [[(0, some [1, 2]), (3, none), (4, none), (6, some [])]]) (by rfl) (by rfl) rfl (Zall (KZ (t := 231) rfl)) (ag_cons (by first | exact ag_rd rfl rfl rfl (ZX (KF (t := 68) (f := 0) rfl rfl)) rfl) (ag_cons (by first | exact ag_rd rfl rfl rfl (ZL (KK (t := 3) rfl)) rfl) (ag_none))) ?_
      refine am_ef (i := 0) (ps' := [[(3, none), (4, none), (6, some [])]]) (by rfl) (by rfl) rfl rfl (ef_call0 false (fun _ => forms_a) rfl .fn rfl (by decide) (by kernel_rfl) rfl (fun _g => .nil) (by simp)) ?_
      rintro _ _ ⟨_, _, _, ⟨vf, rfl, rfl⟩, hF, hH⟩
      (try simp only [nsl, Nat.reduceAdd, Nat.reduceLT, Nat.reduceSub] at hF); (try simp only [nsl, Nat.reduceAdd, Nat.reduceLT, Nat.reduceSub] at hH); subst hF; subst hH
      refine ⟨ag_cons (by first | exact ag_rd rfl rfl rfl (ZX (KF (t := 68) (f := 0) rfl rfl)) rfl) (ag_cons (by first | exact ag_rd rfl rfl rfl (ZL (KK (t := 3) rfl)) rfl) (ag_none)), ?_⟩
      refine ZM (i := 3) (ps' := [[(4, none), (6, some [])]]) (by rfl) (by rfl) rfl (rd_indexq rfl (KE (t := 232) rfl) rfl rfl (i := i) hki hrow rfl) ?_
      refine ZM (i := 4) (ps' := [[(6, some [])]]) (by rfl) (by rfl) rfl (ZK (KK (t := 231) rfl)) ?_
      first | refine ZG (i := 6) (ps' := [[]]) (by rfl) (by rfl) rfl (Zsto (KS (t := 231) rfl)) (ag_none) ?_ | refine ZG (i := 6) (ps' := [[]]) (by rfl) (by rfl) rfl (Zstr (KS (t := 231) rfl)) (ag_none) ?_
      refine am_nil ?_
      rotate_right
      refine am_ef (i := 0) (ps' := [[(3, none), (4, none), (5, some [1, 2, 3, 4]), (6, some [])]]) (by rfl) (by rfl) rfl rfl (ef_call0 false (fun _ => forms_a) rfl .fn rfl (by decide) (by kernel_rfl) rfl (fun _g => .nil) (by simp)) ?_
      rintro _ _ ⟨_, _, _, ⟨vf, rfl, rfl⟩, hF, hH⟩
      (try simp only [nsl, Nat.reduceAdd, Nat.reduceLT, Nat.reduceSub] at hF); (try simp only [nsl, Nat.reduceAdd, Nat.reduceLT, Nat.reduceSub] at hH); subst hF; subst hH
      refine ⟨ag_cons (by first | exact ag_rd rfl rfl rfl (ZX (KF (t := 68) (f := 0) rfl rfl)) rfl) (ag_cons (by first | exact ag_rd rfl rfl rfl (ZL (KK (t := 3) rfl)) rfl) (ag_none)), ?_⟩
      refine ZM (i := 3) (ps' := [[(4, none), (5, some [1, 2, 3, 4]), (6, some [])]]) (by rfl) (by rfl) rfl (rd_indexq rfl (KE (t := 232) rfl) rfl rfl (i := i) hki hrow rfl) ?_
      refine ZM (i := 4) (ps' := [[(5, some [1, 2, 3, 4]), (6, some [])]]) (by rfl) (by rfl) rfl (ZK (KK (t := 231) rfl)) ?_
      refine ZG (i := 5) (ps' := [[(6, some [])]]) (by rfl) (by rfl) rfl (Zall (KZ (t := 231) rfl)) (ag_cons (by first | exact ag_rd rfl rfl rfl (ZX (KF (t := 68) (f := 0) rfl rfl)) rfl) (ag_cons (by first | exact ag_rd rfl rfl rfl (ZL (KK (t := 3) rfl)) rfl) (ag_cons (by first | exact ag_rd rfl rfl rfl (rd_indexq rfl (KE (t := 232) rfl) rfl rfl (i := i) hki hrow rfl) rfl) (ag_cons (by first | exact ag_rd rfl rfl rfl (ZK (KK (t := 231) rfl)) rfl) (ag_none))))) ?_
      first | refine ZG (i := 6) (ps' := [[]]) (by rfl) (by rfl) rfl (Zsto (KS (t := 231) rfl)) (ag_none) ?_ | refine ZG (i := 6) (ps' := [[]]) (by rfl) (by rfl) rfl (Zstr (KS (t := 231) rfl)) (ag_none) ?_
      refine am_nil ?_
    all_goals (refine ZZ ?_)
    all_goals refine wk_of [some 0, some 1] (fun _ => [(1, .p 0 0 0), (3, .p 1 0 0)]) (fun _ => _) (by decide) (ZNL hE) ZCF ZCH (fun _ => ⟨rfl, rfl⟩)
  rintro F H ⟨rfl, rfl⟩
  clear hrow hfm hki
  have hh := Hid.mk (And.intro f5 (And.intro f6 (And.intro f7 f8)))
  clear f5 f6 f7 f8
  have hc : k ≤ 2 ∨ k = 3 ∨ k = 4 ∨ k = 5 ∨ 6 ≤ k := by omega
  rcases hc with hc | hc | hc | hc | hc
  · obtain rfl : pl = false := Bool.eq_false_iff.2 (fun e => by have := f1.1 e; omega)
    obtain rfl : fl = false := Bool.eq_false_iff.2 (fun e => by have := f2.1 e; omega)
    obtain rfl : zz = false := Bool.eq_false_iff.2 (fun e => by have := f3.1 e; omega)
    obtain rfl : nn = false := Bool.eq_false_iff.2 (fun e => by have := f4.1 e; omega)
    clear f1 f2 f3 f4
    repeat' (first
      | (with_reducible refine aw_seq ?_) | (with_reducible refine aseq_n ?_) | (with_reducible refine aseq_r ?_) | (with_reducible refine ablk_n ?_) | (with_reducible refine ablk_r ?_) | (with_reducible refine ablk_e ?_) | (with_reducible refine ablk_o rfl ?_) | (with_reducible refine aseq_e ?_) | (with_reducible refine aw_skip ?_) | (with_reducible refine aw_block ?_) | (with_reducible refine aw_ret ?_) | (with_reducible refine aw_exit ?_)
      | refine aw_cond_t rfl ?_ | refine aw_cond_f rfl ?_ | refine aw_if_t rfl (by assumption) ?_ | refine aw_if_f rfl (by assumption) ?_ | refine aw_if rfl (fun _ => ?_) (fun _ => ?_) | refine aw_cond rfl (fun _ => ?_) (fun _ => ?_)
      | (refine aw_region (id := 4) ?_
         refine WO ?_
         refine al_ef rfl (ef_call0 false (fun _ => isplace_a _) rfl .fn rfl (by decide) (by kernel_rfl) rfl (fun _g => .cons (.c rfl) .nil) (by simp)) ?_
         rintro _ _ ⟨_, _, _, ⟨b, rfl, rfl, hb1, hb2⟩, hF, hH⟩
         (try simp only [nsl, Nat.reduceAdd, Nat.reduceLT, Nat.reduceSub] at hF); (try simp only [nsl, Nat.reduceAdd, Nat.reduceLT, Nat.reduceSub] at hH); subst hF; subst hH
         cases b
         all_goals (simp only [true_implies, false_implies, reduceCtorEq] at hb1 hb2)
         all_goals (refine WO ?_)
         all_goals (first | refine ZS ?_ | (refine G1 rfl ?_; refine al_ef rfl (ef_call0 false (fun _ => isplace_a _) rfl .fn rfl (by decide) (by kernel_rfl) rfl (fun _g => .cons (.c rfl) .nil) (by simp)) ?_; rintro _ _ ⟨_, _, _, ⟨b, rfl, rfl, hb1, hb2⟩, hF, hH⟩; (try simp only [nsl, Nat.reduceAdd, Nat.reduceLT, Nat.reduceSub] at hF); (try simp only [nsl, Nat.reduceAdd, Nat.reduceLT, Nat.reduceSub] at hH); subst hF; subst hH; cases b; all_goals (simp only [true_implies, false_implies, reduceCtorEq] at hb1 hb2)) | skip)
         all_goals (refine WO ?_)
         all_goals (first | refine ZS ?_ | (refine G1 rfl ?_; refine al_ef rfl (ef_call0 false (fun _ => outside_a _ _ _) rfl .fn rfl (by decide) (by kernel_rfl) rfl (fun _g => .cons (.c rfl) (.cons (.c rfl) (.cons (.c rfl) .nil))) (by simp)) ?_; rintro _ _ ⟨_, _, _, ⟨b, rfl, rfl, hb1, hb2⟩, hF, hH⟩; (try simp only [nsl, Nat.reduceAdd, Nat.reduceLT, Nat.reduceSub] at hF); (try simp only [nsl, Nat.reduceAdd, Nat.reduceLT, Nat.reduceSub] at hH); subst hF; subst hH; cases b; all_goals (simp only [true_implies, false_implies, reduceCtorEq] at hb1 hb2)) | skip)
         all_goals (refine WO ?_)
         all_goals (first | refine ZS ?_ | (refine G1 rfl ?_; refine al_ef rfl (ef_call0 false (fun _ => outside_a _ _ _) rfl .fn rfl (by decide) (by kernel_rfl) rfl (fun _g => .cons (.c rfl) (.cons (.c rfl) (.cons (.c rfl) .nil))) (by simp)) ?_; rintro _ _ ⟨_, _, _, ⟨b, rfl, rfl, hb1, hb2⟩, hF, hH⟩; (try simp only [nsl, Nat.reduceAdd, Nat.reduceLT, Nat.reduceSub] at hF); (try simp only [nsl, Nat.reduceAdd, Nat.reduceLT, Nat.reduceSub] at hH); subst hF; subst hH; cases b; all_goals (simp only [true_implies, false_implies, reduceCtorEq] at hb1 hb2)) | skip)
         all_goals (refine WE ?_))
      | (refine aw_region (id := 5) ?_
         refine WE ?_)
      | (refine aw_region (id := 6) ?_
         refine WO ?_
         first | refine ZS ?_ | (refine G1 rfl ?_; refine al_ef rfl (ef_call0 false (fun _ => outside_a _ _ _) rfl .fn rfl (by decide) (by kernel_rfl) rfl (fun _g => .cons (.c rfl) (.cons (.c rfl) (.cons (.c rfl) .nil))) (by simp)) ?_; rintro _ _ ⟨_, _, _, ⟨b, rfl, rfl, hb1, hb2⟩, hF, hH⟩; (try simp only [nsl, Nat.reduceAdd, Nat.reduceLT, Nat.reduceSub] at hF); (try simp only [nsl, Nat.reduceAdd, Nat.reduceLT, Nat.reduceSub] at hH); subst hF; subst hH; cases b; all_goals (simp only [true_implies, false_implies, reduceCtorEq] at hb1 hb2)) | skip
         all_goals (refine WE ?_))
      | (refine aw_region (id := 7) ?_
         refine WE ?_)
      | (refine aw_region (id := 8) ?_
         iterate 6 refine WX1 ?_
         first | refine ZS ?_ | (refine G1 rfl ?_; by_cases hz : x = 0; all_goals (first | refine al_rd rfl rfl (by decide) (rd_neq_f rfl rfl rfl (by omega)) ?_ | refine al_rd rfl rfl (by decide) (rd_neq_t rfl rfl rfl (by omega)) ?_)) | skip
         all_goals (iterate 3 refine WX1 ?_)
         all_goals (first | refine ZS ?_ | (refine G1 rfl ?_; by_cases hz : y = 0; all_goals (first | refine al_rd rfl rfl (by decide) (rd_neq_f rfl rfl rfl (by omega)) ?_ | refine al_rd rfl rfl (by decide) (rd_neq_t rfl rfl rfl (by omega)) ?_)) | skip)
         all_goals (iterate 9 refine WX1 ?_)
         all_goals (first | refine ZS ?_ | (refine G1 rfl ?_; by_cases hz : f = 0; all_goals (first | refine al_rd rfl rfl (by decide) (rd_neq_f rfl rfl rfl (by omega)) ?_ | refine al_rd rfl rfl (by decide) (rd_neq_t rfl rfl rfl (by omega)) ?_)) | skip)
         all_goals (iterate 9 refine WX1 ?_)
         all_goals (first | refine ZS ?_ | (refine G1 rfl ?_; by_cases hz : z = 0; all_goals (first | refine al_rd rfl rfl (by decide) (rd_neq_f rfl rfl rfl (by omega)) ?_ | refine al_rd rfl rfl (by decide) (rd_neq_t rfl rfl rfl (by omega)) ?_)) | skip)
         all_goals (iterate 9 refine WX1 ?_)
         all_goals (first | refine ZS ?_ | (refine G1 rfl ?_; by_cases hz : n = 0; all_goals (first | refine al_rd rfl rfl (by decide) (rd_neq_f rfl rfl rfl (by omega)) ?_ | refine al_rd rfl rfl (by decide) (rd_neq_t rfl rfl rfl (by omega)) ?_)) | skip)
         all_goals (refine WE ?_))
      | (refine aw_region (id := 9) ?_
         refine WE ?_)
      | (refine aw_region (id := 10) ?_
         refine WE ?_))
    all_goals (refine aret_1 [] _ rfl rfl rfl (by decide) (ZNK rfl) (fun _ => .nil) ⟨?_, rfl⟩)
    all_goals (obtain ⟨f5, f6, f7, f8⟩ := hh.out; clear hh; rw [faultS, if_neg (by simp only; omega)]; simp only)
    all_goals first
      | rw [if_pos (by omega)]
      | rw [if_neg (by omega), if_pos (by omega)]
      | rw [if_neg (by omega), if_neg (by omega), if_pos (by omega)]
      | rw [if_neg (by omega), if_neg (by omega), if_neg (by omega)]
  · obtain rfl : pl = true := f1.2 (by omega)
    obtain rfl : fl = false := Bool.eq_false_iff.2 (fun e => by have := f2.1 e; omega)
    obtain rfl : zz = false := Bool.eq_false_iff.2 (fun e => by have := f3.1 e; omega)
    obtain rfl : nn = false := Bool.eq_false_iff.2 (fun e => by have := f4.1 e; omega)
    clear f1 f2 f3 f4
    repeat' (first
      | (with_reducible refine aw_seq ?_) | (with_reducible refine aseq_n ?_) | (with_reducible refine aseq_r ?_) | (with_reducible refine ablk_n ?_) | (with_reducible refine ablk_r ?_) | (with_reducible refine ablk_e ?_) | (with_reducible refine ablk_o rfl ?_) | (with_reducible refine aseq_e ?_) | (with_reducible refine aw_skip ?_) | (with_reducible refine aw_block ?_) | (with_reducible refine aw_ret ?_) | (with_reducible refine aw_exit ?_)
      | refine aw_cond_t rfl ?_ | refine aw_cond_f rfl ?_ | refine aw_if_t rfl (by assumption) ?_ | refine aw_if_f rfl (by assumption) ?_ | refine aw_if rfl (fun _ => ?_) (fun _ => ?_) | refine aw_cond rfl (fun _ => ?_) (fun _ => ?_)
      | (refine aw_region (id := 4) ?_
         refine WO ?_
         refine al_ef rfl (ef_call0 false (fun _ => isplace_a _) rfl .fn rfl (by decide) (by kernel_rfl) rfl (fun _g => .cons (.c rfl) .nil) (by simp)) ?_
         rintro _ _ ⟨_, _, _, ⟨b, rfl, rfl, hb1, hb2⟩, hF, hH⟩
         (try simp only [nsl, Nat.reduceAdd, Nat.reduceLT, Nat.reduceSub] at hF); (try simp only [nsl, Nat.reduceAdd, Nat.reduceLT, Nat.reduceSub] at hH); subst hF; subst hH
         cases b
         all_goals (simp only [true_implies, false_implies, reduceCtorEq] at hb1 hb2)
         all_goals (refine WO ?_)
         all_goals (first | refine ZS ?_ | (refine G1 rfl ?_; refine al_ef rfl (ef_call0 false (fun _ => isplace_a _) rfl .fn rfl (by decide) (by kernel_rfl) rfl (fun _g => .cons (.c rfl) .nil) (by simp)) ?_; rintro _ _ ⟨_, _, _, ⟨b, rfl, rfl, hb1, hb2⟩, hF, hH⟩; (try simp only [nsl, Nat.reduceAdd, Nat.reduceLT, Nat.reduceSub] at hF); (try simp only [nsl, Nat.reduceAdd, Nat.reduceLT, Nat.reduceSub] at hH); subst hF; subst hH; cases b; all_goals (simp only [true_implies, false_implies, reduceCtorEq] at hb1 hb2)) | skip)
         all_goals (refine WO ?_)
         all_goals (first | refine ZS ?_ | (refine G1 rfl ?_; refine al_ef rfl (ef_call0 false (fun _ => outside_a _ _ _) rfl .fn rfl (by decide) (by kernel_rfl) rfl (fun _g => .cons (.c rfl) (.cons (.c rfl) (.cons (.c rfl) .nil))) (by simp)) ?_; rintro _ _ ⟨_, _, _, ⟨b, rfl, rfl, hb1, hb2⟩, hF, hH⟩; (try simp only [nsl, Nat.reduceAdd, Nat.reduceLT, Nat.reduceSub] at hF); (try simp only [nsl, Nat.reduceAdd, Nat.reduceLT, Nat.reduceSub] at hH); subst hF; subst hH; cases b; all_goals (simp only [true_implies, false_implies, reduceCtorEq] at hb1 hb2)) | skip)
         all_goals (refine WO ?_)
         all_goals (first | refine ZS ?_ | (refine G1 rfl ?_; refine al_ef rfl (ef_call0 false (fun _ => outside_a _ _ _) rfl .fn rfl (by decide) (by kernel_rfl) rfl (fun _g => .cons (.c rfl) (.cons (.c rfl) (.cons (.c rfl) .nil))) (by simp)) ?_; rintro _ _ ⟨_, _, _, ⟨b, rfl, rfl, hb1, hb2⟩, hF, hH⟩; (try simp only [nsl, Nat.reduceAdd, Nat.reduceLT, Nat.reduceSub] at hF); (try simp only [nsl, Nat.reduceAdd, Nat.reduceLT, Nat.reduceSub] at hH); subst hF; subst hH; cases b; all_goals (simp only [true_implies, false_implies, reduceCtorEq] at hb1 hb2)) | skip)
         all_goals (refine WE ?_))
      | (refine aw_region (id := 5) ?_
         refine WE ?_)
      | (refine aw_region (id := 6) ?_
         refine WO ?_
         first | refine ZS ?_ | (refine G1 rfl ?_; refine al_ef rfl (ef_call0 false (fun _ => outside_a _ _ _) rfl .fn rfl (by decide) (by kernel_rfl) rfl (fun _g => .cons (.c rfl) (.cons (.c rfl) (.cons (.c rfl) .nil))) (by simp)) ?_; rintro _ _ ⟨_, _, _, ⟨b, rfl, rfl, hb1, hb2⟩, hF, hH⟩; (try simp only [nsl, Nat.reduceAdd, Nat.reduceLT, Nat.reduceSub] at hF); (try simp only [nsl, Nat.reduceAdd, Nat.reduceLT, Nat.reduceSub] at hH); subst hF; subst hH; cases b; all_goals (simp only [true_implies, false_implies, reduceCtorEq] at hb1 hb2)) | skip
         all_goals (refine WE ?_))
      | (refine aw_region (id := 7) ?_
         refine WE ?_)
      | (refine aw_region (id := 8) ?_
         iterate 6 refine WX1 ?_
         first | refine ZS ?_ | (refine G1 rfl ?_; by_cases hz : x = 0; all_goals (first | refine al_rd rfl rfl (by decide) (rd_neq_f rfl rfl rfl (by omega)) ?_ | refine al_rd rfl rfl (by decide) (rd_neq_t rfl rfl rfl (by omega)) ?_)) | skip
         all_goals (iterate 3 refine WX1 ?_)
         all_goals (first | refine ZS ?_ | (refine G1 rfl ?_; by_cases hz : y = 0; all_goals (first | refine al_rd rfl rfl (by decide) (rd_neq_f rfl rfl rfl (by omega)) ?_ | refine al_rd rfl rfl (by decide) (rd_neq_t rfl rfl rfl (by omega)) ?_)) | skip)
         all_goals (iterate 9 refine WX1 ?_)
         all_goals (first | refine ZS ?_ | (refine G1 rfl ?_; by_cases hz : f = 0; all_goals (first | refine al_rd rfl rfl (by decide) (rd_neq_f rfl rfl rfl (by omega)) ?_ | refine al_rd rfl rfl (by decide) (rd_neq_t rfl rfl rfl (by omega)) ?_)) | skip)
         all_goals (iterate 9 refine WX1 ?_)
         all_goals (first | refine ZS ?_ | (refine G1 rfl ?_; by_cases hz : z = 0; all_goals (first | refine al_rd rfl rfl (by decide) (rd_neq_f rfl rfl rfl (by omega)) ?_ | refine al_rd rfl rfl (by decide) (rd_neq_t rfl rfl rfl (by omega)) ?_)) | skip)
         all_goals (iterate 9 refine WX1 ?_)
         all_goals (first | refine ZS ?_ | (refine G1 rfl ?_; by_cases hz : n = 0; all_goals (first | refine al_rd rfl rfl (by decide) (rd_neq_f rfl rfl rfl (by omega)) ?_ | refine al_rd rfl rfl (by decide) (rd_neq_t rfl rfl rfl (by omega)) ?_)) | skip)
         all_goals (refine WE ?_))
      | (refine aw_region (id := 9) ?_
         refine WE ?_)
      | (refine aw_region (id := 10) ?_
         refine WE ?_))
    all_goals (refine aret_1 [] _ rfl rfl rfl (by decide) (ZNK rfl) (fun _ => .nil) ⟨?_, rfl⟩)
    all_goals (obtain ⟨f5, f6, f7, f8⟩ := hh.out; clear hh; rw [faultS, if_neg (by simp only; omega)]; simp only)
    all_goals first
      | rw [if_pos (by omega)]
      | rw [if_neg (by omega), if_pos (by omega)]
      | rw [if_neg (by omega), if_neg (by omega), if_pos (by omega)]
      | rw [if_neg (by omega), if_neg (by omega), if_neg (by omega)]
  · obtain rfl : pl = true := f1.2 (by omega)
    obtain rfl : fl = true := f2.2 (by omega)
    obtain rfl : zz = false := Bool.eq_false_iff.2 (fun e => by have := f3.1 e; omega)
    obtain rfl : nn = false := Bool.eq_false_iff.2 (fun e => by have := f4.1 e; omega)
    clear f1 f2 f3 f4
    repeat' (first
      | (with_reducible refine aw_seq ?_) | (with_reducible refine aseq_n ?_) | (with_reducible refine aseq_r ?_) | (with_reducible refine ablk_n ?_) | (with_reducible refine ablk_r ?_) | (with_reducible refine ablk_e ?_) | (with_reducible refine ablk_o rfl ?_) | (with_reducible refine aseq_e ?_) | (with_reducible refine aw_skip ?_) | (with_reducible refine aw_block ?_) | (with_reducible refine aw_ret ?_) | (with_reducible refine aw_exit ?_)
      | refine aw_cond_t rfl ?_ | refine aw_cond_f rfl ?_ | refine aw_if_t rfl (by assumption) ?_ | refine aw_if_f rfl (by assumption) ?_ | refine aw_if rfl (fun _ => ?_) (fun _ => ?_) | refine aw_cond rfl (fun _ => ?_) (fun _ => ?_)
      | (refine aw_region (id := 4) ?_
         refine WO ?_
         refine al_ef rfl (ef_call0 false (fun _ => isplace_a _) rfl .fn rfl (by decide) (by kernel_rfl) rfl (fun _g => .cons (.c rfl) .nil) (by simp)) ?_
         rintro _ _ ⟨_, _, _, ⟨b, rfl, rfl, hb1, hb2⟩, hF, hH⟩
         (try simp only [nsl, Nat.reduceAdd, Nat.reduceLT, Nat.reduceSub] at hF); (try simp only [nsl, Nat.reduceAdd, Nat.reduceLT, Nat.reduceSub] at hH); subst hF; subst hH
         cases b
         all_goals (simp only [true_implies, false_implies, reduceCtorEq] at hb1 hb2)
         all_goals (refine WO ?_)
         all_goals (first | refine ZS ?_ | (refine G1 rfl ?_; refine al_ef rfl (ef_call0 false (fun _ => isplace_a _) rfl .fn rfl (by decide) (by kernel_rfl) rfl (fun _g => .cons (.c rfl) .nil) (by simp)) ?_; rintro _ _ ⟨_, _, _, ⟨b, rfl, rfl, hb1, hb2⟩, hF, hH⟩; (try simp only [nsl, Nat.reduceAdd, Nat.reduceLT, Nat.reduceSub] at hF); (try simp only [nsl, Nat.reduceAdd, Nat.reduceLT, Nat.reduceSub] at hH); subst hF; subst hH; cases b; all_goals (simp only [true_implies, false_implies, reduceCtorEq] at hb1 hb2)) | skip)
         all_goals (refine WO ?_)
         all_goals (first | refine ZS ?_ | (refine G1 rfl ?_; refine al_ef rfl (ef_call0 false (fun _ => outside_a _ _ _) rfl .fn rfl (by decide) (by kernel_rfl) rfl (fun _g => .cons (.c rfl) (.cons (.c rfl) (.cons (.c rfl) .nil))) (by simp)) ?_; rintro _ _ ⟨_, _, _, ⟨b, rfl, rfl, hb1, hb2⟩, hF, hH⟩; (try simp only [nsl, Nat.reduceAdd, Nat.reduceLT, Nat.reduceSub] at hF); (try simp only [nsl, Nat.reduceAdd, Nat.reduceLT, Nat.reduceSub] at hH); subst hF; subst hH; cases b; all_goals (simp only [true_implies, false_implies, reduceCtorEq] at hb1 hb2)) | skip)
         all_goals (refine WO ?_)
         all_goals (first | refine ZS ?_ | (refine G1 rfl ?_; refine al_ef rfl (ef_call0 false (fun _ => outside_a _ _ _) rfl .fn rfl (by decide) (by kernel_rfl) rfl (fun _g => .cons (.c rfl) (.cons (.c rfl) (.cons (.c rfl) .nil))) (by simp)) ?_; rintro _ _ ⟨_, _, _, ⟨b, rfl, rfl, hb1, hb2⟩, hF, hH⟩; (try simp only [nsl, Nat.reduceAdd, Nat.reduceLT, Nat.reduceSub] at hF); (try simp only [nsl, Nat.reduceAdd, Nat.reduceLT, Nat.reduceSub] at hH); subst hF; subst hH; cases b; all_goals (simp only [true_implies, false_implies, reduceCtorEq] at hb1 hb2)) | skip)
         all_goals (refine WE ?_))
      | (refine aw_region (id := 5) ?_
         refine WE ?_)
      | (refine aw_region (id := 6) ?_
         refine WO ?_
         first | refine ZS ?_ | (refine G1 rfl ?_; refine al_ef rfl (ef_call0 false (fun _ => outside_a _ _ _) rfl .fn rfl (by decide) (by kernel_rfl) rfl (fun _g => .cons (.c rfl) (.cons (.c rfl) (.cons (.c rfl) .nil))) (by simp)) ?_; rintro _ _ ⟨_, _, _, ⟨b, rfl, rfl, hb1, hb2⟩, hF, hH⟩; (try simp only [nsl, Nat.reduceAdd, Nat.reduceLT, Nat.reduceSub] at hF); (try simp only [nsl, Nat.reduceAdd, Nat.reduceLT, Nat.reduceSub] at hH); subst hF; subst hH; cases b; all_goals (simp only [true_implies, false_implies, reduceCtorEq] at hb1 hb2)) | skip
         all_goals (refine WE ?_))
      | (refine aw_region (id := 7) ?_
         refine WE ?_)
      | (refine aw_region (id := 8) ?_
         iterate 6 refine WX1 ?_
         first | refine ZS ?_ | (refine G1 rfl ?_; by_cases hz : x = 0; all_goals (first | refine al_rd rfl rfl (by decide) (rd_neq_f rfl rfl rfl (by omega)) ?_ | refine al_rd rfl rfl (by decide) (rd_neq_t rfl rfl rfl (by omega)) ?_)) | skip
         all_goals (iterate 3 refine WX1 ?_)
         all_goals (first | refine ZS ?_ | (refine G1 rfl ?_; by_cases hz : y = 0; all_goals (first | refine al_rd rfl rfl (by decide) (rd_neq_f rfl rfl rfl (by omega)) ?_ | refine al_rd rfl rfl (by decide) (rd_neq_t rfl rfl rfl (by omega)) ?_)) | skip)
         all_goals (iterate 9 refine WX1 ?_)
         all_goals (first | refine ZS ?_ | (refine G1 rfl ?_; by_cases hz : f = 0; all_goals (first | refine al_rd rfl rfl (by decide) (rd_neq_f rfl rfl rfl (by omega)) ?_ | refine al_rd rfl rfl (by decide) (rd_neq_t rfl rfl rfl (by omega)) ?_)) | skip)
         all_goals (iterate 9 refine WX1 ?_)
         all_goals (first | refine ZS ?_ | (refine G1 rfl ?_; by_cases hz : z = 0; all_goals (first | refine al_rd rfl rfl (by decide) (rd_neq_f rfl rfl rfl (by omega)) ?_ | refine al_rd rfl rfl (by decide) (rd_neq_t rfl rfl rfl (by omega)) ?_)) | skip)
         all_goals (iterate 9 refine WX1 ?_)
         all_goals (first | refine ZS ?_ | (refine G1 rfl ?_; by_cases hz : n = 0; all_goals (first | refine al_rd rfl rfl (by decide) (rd_neq_f rfl rfl rfl (by omega)) ?_ | refine al_rd rfl rfl (by decide) (rd_neq_t rfl rfl rfl (by omega)) ?_)) | skip)
         all_goals (refine WE ?_))
      | (refine aw_region (id := 9) ?_
         refine WE ?_)
      | (refine aw_region (id := 10) ?_
         refine WE ?_))
    all_goals (refine aret_1 [] _ rfl rfl rfl (by decide) (ZNK rfl) (fun _ => .nil) ⟨?_, rfl⟩)
    all_goals (obtain ⟨f5, f6, f7, f8⟩ := hh.out; clear hh; rw [faultS, if_neg (by simp only; omega)]; simp only)
    all_goals first
      | rw [if_pos (by omega)]
      | rw [if_neg (by omega), if_pos (by omega)]
      | rw [if_neg (by omega), if_neg (by omega), if_pos (by omega)]
      | rw [if_neg (by omega), if_neg (by omega), if_neg (by omega)]
  · obtain rfl : pl = false := Bool.eq_false_iff.2 (fun e => by have := f1.1 e; omega)
    obtain rfl : fl = false := Bool.eq_false_iff.2 (fun e => by have := f2.1 e; omega)
    obtain rfl : zz = true := f3.2 (by omega)
    obtain rfl : nn = false := Bool.eq_false_iff.2 (fun e => by have := f4.1 e; omega)
    clear f1 f2 f3 f4
    repeat' (first
      | (with_reducible refine aw_seq ?_) | (with_reducible refine aseq_n ?_) | (with_reducible refine aseq_r ?_) | (with_reducible refine ablk_n ?_) | (with_reducible refine ablk_r ?_) | (with_reducible refine ablk_e ?_) | (with_reducible refine ablk_o rfl ?_) | (with_reducible refine aseq_e ?_) | (with_reducible refine aw_skip ?_) | (with_reducible refine aw_block ?_) | (with_reducible refine aw_ret ?_) | (with_reducible refine aw_exit ?_)
      | refine aw_cond_t rfl ?_ | refine aw_cond_f rfl ?_ | refine aw_if_t rfl (by assumption) ?_ | refine aw_if_f rfl (by assumption) ?_ | refine aw_if rfl (fun _ => ?_) (fun _ => ?_) | refine aw_cond rfl (fun _ => ?_) (fun _ => ?_)
      | (refine aw_region (id := 4) ?_
         refine WO ?_
         refine al_ef rfl (ef_call0 false (fun _ => isplace_a _) rfl .fn rfl (by decide) (by kernel_rfl) rfl (fun _g => .cons (.c rfl) .nil) (by simp)) ?_
         rintro _ _ ⟨_, _, _, ⟨b, rfl, rfl, hb1, hb2⟩, hF, hH⟩
         (try simp only [nsl, Nat.reduceAdd, Nat.reduceLT, Nat.reduceSub] at hF); (try simp only [nsl, Nat.reduceAdd, Nat.reduceLT, Nat.reduceSub] at hH); subst hF; subst hH
         cases b
         all_goals (simp only [true_implies, false_implies, reduceCtorEq] at hb1 hb2)
         all_goals (refine WO ?_)
         all_goals (first | refine ZS ?_ | (refine G1 rfl ?_; refine al_ef rfl (ef_call0 false (fun _ => isplace_a _) rfl .fn rfl (by decide) (by kernel_rfl) rfl (fun _g => .cons (.c rfl) .nil) (by simp)) ?_; rintro _ _ ⟨_, _, _, ⟨b, rfl, rfl, hb1, hb2⟩, hF, hH⟩; (try simp only [nsl, Nat.reduceAdd, Nat.reduceLT, Nat.reduceSub] at hF); (try simp only [nsl, Nat.reduceAdd, Nat.reduceLT, Nat.reduceSub] at hH); subst hF; subst hH; cases b; all_goals (simp only [true_implies, false_implies, reduceCtorEq] at hb1 hb2)) | skip)
         all_goals (refine WO ?_)
         all_goals (first | refine ZS ?_ | (refine G1 rfl ?_; refine al_ef rfl (ef_call0 false (fun _ => outside_a _ _ _) rfl .fn rfl (by decide) (by kernel_rfl) rfl (fun _g => .cons (.c rfl) (.cons (.c rfl) (.cons (.c rfl) .nil))) (by simp)) ?_; rintro _ _ ⟨_, _, _, ⟨b, rfl, rfl, hb1, hb2⟩, hF, hH⟩; (try simp only [nsl, Nat.reduceAdd, Nat.reduceLT, Nat.reduceSub] at hF); (try simp only [nsl, Nat.reduceAdd, Nat.reduceLT, Nat.reduceSub] at hH); subst hF; subst hH; cases b; all_goals (simp only [true_implies, false_implies, reduceCtorEq] at hb1 hb2)) | skip)
         all_goals (refine WO ?_)
         all_goals (first | refine ZS ?_ | (refine G1 rfl ?_; refine al_ef rfl (ef_call0 false (fun _ => outside_a _ _ _) rfl .fn rfl (by decide) (by kernel_rfl) rfl (fun _g => .cons (.c rfl) (.cons (.c rfl) (.cons (.c rfl) .nil))) (by simp)) ?_; rintro _ _ ⟨_, _, _, ⟨b, rfl, rfl, hb1, hb2⟩, hF, hH⟩; (try simp only [nsl, Nat.reduceAdd, Nat.reduceLT, Nat.reduceSub] at hF); (try simp only [nsl, Nat.reduceAdd, Nat.reduceLT, Nat.reduceSub] at hH); subst hF; subst hH; cases b; all_goals (simp only [true_implies, false_implies, reduceCtorEq] at hb1 hb2)) | skip)
         all_goals (refine WE ?_))
      | (refine aw_region (id := 5) ?_
         refine WE ?_)
      | (refine aw_region (id := 6) ?_
         refine WO ?_
         first | refine ZS ?_ | (refine G1 rfl ?_; refine al_ef rfl (ef_call0 false (fun _ => outside_a _ _ _) rfl .fn rfl (by decide) (by kernel_rfl) rfl (fun _g => .cons (.c rfl) (.cons (.c rfl) (.cons (.c rfl) .nil))) (by simp)) ?_; rintro _ _ ⟨_, _, _, ⟨b, rfl, rfl, hb1, hb2⟩, hF, hH⟩; (try simp only [nsl, Nat.reduceAdd, Nat.reduceLT, Nat.reduceSub] at hF); (try simp only [nsl, Nat.reduceAdd, Nat.reduceLT, Nat.reduceSub] at hH); subst hF; subst hH; cases b; all_goals (simp only [true_implies, false_implies, reduceCtorEq] at hb1 hb2)) | skip
         all_goals (refine WE ?_))
      | (refine aw_region (id := 7) ?_
         refine WE ?_)
      | (refine aw_region (id := 8) ?_
         iterate 6 refine WX1 ?_
         first | refine ZS ?_ | (refine G1 rfl ?_; by_cases hz : x = 0; all_goals (first | refine al_rd rfl rfl (by decide) (rd_neq_f rfl rfl rfl (by omega)) ?_ | refine al_rd rfl rfl (by decide) (rd_neq_t rfl rfl rfl (by omega)) ?_)) | skip
         all_goals (iterate 3 refine WX1 ?_)
         all_goals (first | refine ZS ?_ | (refine G1 rfl ?_; by_cases hz : y = 0; all_goals (first | refine al_rd rfl rfl (by decide) (rd_neq_f rfl rfl rfl (by omega)) ?_ | refine al_rd rfl rfl (by decide) (rd_neq_t rfl rfl rfl (by omega)) ?_)) | skip)
         all_goals (iterate 9 refine WX1 ?_)
         all_goals (first | refine ZS ?_ | (refine G1 rfl ?_; by_cases hz : f = 0; all_goals (first | refine al_rd rfl rfl (by decide) (rd_neq_f rfl rfl rfl (by omega)) ?_ | refine al_rd rfl rfl (by decide) (rd_neq_t rfl rfl rfl (by omega)) ?_)) | skip)
         all_goals (iterate 9 refine WX1 ?_)
         all_goals (first | refine ZS ?_ | (refine G1 rfl ?_; by_cases hz : z = 0; all_goals (first | refine al_rd rfl rfl (by decide) (rd_neq_f rfl rfl rfl (by omega)) ?_ | refine al_rd rfl rfl (by decide) (rd_neq_t rfl rfl rfl (by omega)) ?_)) | skip)
         all_goals (iterate 9 refine WX1 ?_)
         all_goals (first | refine ZS ?_ | (refine G1 rfl ?_; by_cases hz : n = 0; all_goals (first | refine al_rd rfl rfl (by decide) (rd_neq_f rfl rfl rfl (by omega)) ?_ | refine al_rd rfl rfl (by decide) (rd_neq_t rfl rfl rfl (by omega)) ?_)) | skip)
         all_goals (refine WE ?_))
      | (refine aw_region (id := 9) ?_
         refine WE ?_)
      | (refine aw_region (id := 10) ?_
         refine WE ?_))
    all_goals (refine aret_1 [] _ rfl rfl rfl (by decide) (ZNK rfl) (fun _ => .nil) ⟨?_, rfl⟩)
    all_goals (obtain ⟨f5, f6, f7, f8⟩ := hh.out; clear hh; rw [faultS, if_neg (by simp only; omega)]; simp only)
    all_goals first
      | rw [if_pos (by omega)]
      | rw [if_neg (by omega), if_pos (by omega)]
      | rw [if_neg (by omega), if_neg (by omega), if_pos (by omega)]
      | rw [if_neg (by omega), if_neg (by omega), if_neg (by omega)]
  · obtain rfl : pl = false := Bool.eq_false_iff.2 (fun e => by have := f1.1 e; omega)
    obtain rfl : fl = false := Bool.eq_false_iff.2 (fun e => by have := f2.1 e; omega)
    obtain rfl : zz = false := Bool.eq_false_iff.2 (fun e => by have := f3.1 e; omega)
    obtain rfl : nn = true := f4.2 (by omega)
    clear f1 f2 f3 f4
    repeat' (first
      | (with_reducible refine aw_seq ?_) | (with_reducible refine aseq_n ?_) | (with_reducible refine aseq_r ?_) | (with_reducible refine ablk_n ?_) | (with_reducible refine ablk_r ?_) | (with_reducible refine ablk_e ?_) | (with_reducible refine ablk_o rfl ?_) | (with_reducible refine aseq_e ?_) | (with_reducible refine aw_skip ?_) | (with_reducible refine aw_block ?_) | (with_reducible refine aw_ret ?_) | (with_reducible refine aw_exit ?_)
      | refine aw_cond_t rfl ?_ | refine aw_cond_f rfl ?_ | refine aw_if_t rfl (by assumption) ?_ | refine aw_if_f rfl (by assumption) ?_ | refine aw_if rfl (fun _ => ?_) (fun _ => ?_) | refine aw_cond rfl (fun _ => ?_) (fun _ => ?_)
      | (refine aw_region (id := 4) ?_
         refine WO ?_
         refine al_ef rfl (ef_call0 false (fun _ => isplace_a _) rfl .fn rfl (by decide) (by kernel_rfl) rfl (fun _g => .cons (.c rfl) .nil) (by simp)) ?_
         rintro _ _ ⟨_, _, _, ⟨b, rfl, rfl, hb1, hb2⟩, hF, hH⟩
         (try simp only [nsl, Nat.reduceAdd, Nat.reduceLT, Nat.reduceSub] at hF); (try simp only [nsl, Nat.reduceAdd, Nat.reduceLT, Nat.reduceSub] at hH); subst hF; subst hH
         cases b
         all_goals (simp only [true_implies, false_implies, reduceCtorEq] at hb1 hb2)
         all_goals (refine WO ?_)
         all_goals (first | refine ZS ?_ | (refine G1 rfl ?_; refine al_ef rfl (ef_call0 false (fun _ => isplace_a _) rfl .fn rfl (by decide) (by kernel_rfl) rfl (fun _g => .cons (.c rfl) .nil) (by simp)) ?_; rintro _ _ ⟨_, _, _, ⟨b, rfl, rfl, hb1, hb2⟩, hF, hH⟩; (try simp only [nsl, Nat.reduceAdd, Nat.reduceLT, Nat.reduceSub] at hF); (try simp only [nsl, Nat.reduceAdd, Nat.reduceLT, Nat.reduceSub] at hH); subst hF; subst hH; cases b; all_goals (simp only [true_implies, false_implies, reduceCtorEq] at hb1 hb2)) | skip)
         all_goals (refine WO ?_)
         all_goals (first | refine ZS ?_ | (refine G1 rfl ?_; refine al_ef rfl (ef_call0 false (fun _ => outside_a _ _ _) rfl .fn rfl (by decide) (by kernel_rfl) rfl (fun _g => .cons (.c rfl) (.cons (.c rfl) (.cons (.c rfl) .nil))) (by simp)) ?_; rintro _ _ ⟨_, _, _, ⟨b, rfl, rfl, hb1, hb2⟩, hF, hH⟩; (try simp only [nsl, Nat.reduceAdd, Nat.reduceLT, Nat.reduceSub] at hF); (try simp only [nsl, Nat.reduceAdd, Nat.reduceLT, Nat.reduceSub] at hH); subst hF; subst hH; cases b; all_goals (simp only [true_implies, false_implies, reduceCtorEq] at hb1 hb2)) | skip)
         all_goals (refine WO ?_)
         all_goals (first | refine ZS ?_ | (refine G1 rfl ?_; refine al_ef rfl (ef_call0 false (fun _ => outside_a _ _ _) rfl .fn rfl (by decide) (by kernel_rfl) rfl (fun _g => .cons (.c rfl) (.cons (.c rfl) (.cons (.c rfl) .nil))) (by simp)) ?_; rintro _ _ ⟨_, _, _, ⟨b, rfl, rfl, hb1, hb2⟩, hF, hH⟩; (try simp only [nsl, Nat.reduceAdd, Nat.reduceLT, Nat.reduceSub] at hF); (try simp only [nsl, Nat.reduceAdd, Nat.reduceLT, Nat.reduceSub] at hH); subst hF; subst hH; cases b; all_goals (simp only [true_implies, false_implies, reduceCtorEq] at hb1 hb2)) | skip)
         all_goals (refine WE ?_))
      | (refine aw_region (id := 5) ?_
         refine WE ?_)
      | (refine aw_region (id := 6) ?_
         refine WO ?_
         first | refine ZS ?_ | (refine G1 rfl ?_; refine al_ef rfl (ef_call0 false (fun _ => outside_a _ _ _) rfl .fn rfl (by decide) (by kernel_rfl) rfl (fun _g => .cons (.c rfl) (.cons (.c rfl) (.cons (.c rfl) .nil))) (by simp)) ?_; rintro _ _ ⟨_, _, _, ⟨b, rfl, rfl, hb1, hb2⟩, hF, hH⟩; (try simp only [nsl, Nat.reduceAdd, Nat.reduceLT, Nat.reduceSub] at hF); (try simp only [nsl, Nat.reduceAdd, Nat.reduceLT, Nat.reduceSub] at hH); subst hF; subst hH; cases b; all_goals (simp only [true_implies, false_implies, reduceCtorEq] at hb1 hb2)) | skip
         all_goals (refine WE ?_))
      | (refine aw_region (id := 7) ?_
         refine WE ?_)
      | (refine aw_region (id := 8) ?_
         iterate 6 refine WX1 ?_
         first | refine ZS ?_ | (refine G1 rfl ?_; by_cases hz : x = 0; all_goals (first | refine al_rd rfl rfl (by decide) (rd_neq_f rfl rfl rfl (by omega)) ?_ | refine al_rd rfl rfl (by decide) (rd_neq_t rfl rfl rfl (by omega)) ?_)) | skip
         all_goals (iterate 3 refine WX1 ?_)
         all_goals (first | refine ZS ?_ | (refine G1 rfl ?_; by_cases hz : y = 0; all_goals (first | refine al_rd rfl rfl (by decide) (rd_neq_f rfl rfl rfl (by omega)) ?_ | refine al_rd rfl rfl (by decide) (rd_neq_t rfl rfl rfl (by omega)) ?_)) | skip)
         all_goals (iterate 9 refine WX1 ?_)
         all_goals (first | refine ZS ?_ | (refine G1 rfl ?_; by_cases hz : f = 0; all_goals (first | refine al_rd rfl rfl (by decide) (rd_neq_f rfl rfl rfl (by omega)) ?_ | refine al_rd rfl rfl (by decide) (rd_neq_t rfl rfl rfl (by omega)) ?_)) | skip)
         all_goals (iterate 9 refine WX1 ?_)
         all_goals (first | refine ZS ?_ | (refine G1 rfl ?_; by_cases hz : z = 0; all_goals (first | refine al_rd rfl rfl (by decide) (rd_neq_f rfl rfl rfl (by omega)) ?_ | refine al_rd rfl rfl (by decide) (rd_neq_t rfl rfl rfl (by omega)) ?_)) | skip)
         all_goals (iterate 9 refine WX1 ?_)
         all_goals (first | refine ZS ?_ | (refine G1 rfl ?_; by_cases hz : n = 0; all_goals (first | refine al_rd rfl rfl (by decide) (rd_neq_f rfl rfl rfl (by omega)) ?_ | refine al_rd rfl rfl (by decide) (rd_neq_t rfl rfl rfl (by omega)) ?_)) | skip)
         all_goals (refine WE ?_))
      | (refine aw_region (id := 9) ?_
         refine WE ?_)
      | (refine aw_region (id := 10) ?_
         refine WE ?_))
    all_goals (refine aret_1 [] _ rfl rfl rfl (by decide) (ZNK rfl) (fun _ => .nil) ⟨?_, rfl⟩)
    all_goals (obtain ⟨f5, f6, f7, f8⟩ := hh.out; clear hh; rw [faultS, if_neg (by simp only; omega)]; simp only)
    all_goals first
      | rw [if_pos (by omega)]
      | rw [if_neg (by omega), if_pos (by omega)]
      | rw [if_neg (by omega), if_neg (by omega), if_pos (by omega)]
      | rw [if_neg (by omega), if_neg (by omega), if_neg (by omega)]
end Go.Proofs.YtdmeohgojdfmoaaGreatDoor

/- The program's faults of programs, by value. -/
namespace Go.Proofs.YtdmeohgojdfmoaaGreatDoor
open Go Go.RowKit
set_option maxRecDepth 100000
theorem check_a (l : List Step) (v : Value) (hl : l.length ≤ 1000000000) : ACalls Tryz.prog 90 [.c (prog_r v l)] [] fun u H => u = .c (I (progF l)) ∧ H = [] := by
  have e1 : (l.map Step.row).length = l.length := by simp
  refine acalls_of (N := 21) Tryz.func90 rfl rfl (by simp) fun E hE => ?_
  refine WA ?_
  refine WA ?_
  refine aw_if rfl (fun hbig => ?_) (fun hbig => ?_)
  · refine WA ?_
    refine aret_1 [] _ rfl rfl rfl (by decide) (ZNK rfl) (fun _ => .nil) ⟨?_, rfl⟩
    rw [progF, if_pos (by omega)]
  refine ZZ ?_
  refine WA ?_
  refine aw_loopw (fun m F H => ∃ (k : Nat), m + k = l.length ∧ firstF (l.drop k) = firstF l ∧ F = [(9, .c (prog_r v l)), (10, .c (I (l.map Step.row).length)), (11, .c (I k))] ∧ H = []) ?_ ?_
  · refine wk_of [] (fun _ => [(9, .c (prog_r v l)), (10, .c (I (l.map Step.row).length)), (11, .c (I (0 : Nat)))]) (fun _ => _) (by decide) (ZNL hE) ZCF (fun _ => .nil) (fun _ => ?_)
    exact ⟨l.length, 0, by omega, rfl, rfl, rfl⟩
  rintro m F H ⟨k, hk, hf, rfl, rfl⟩
  refine WA ?_
  refine aw_if rfl (fun hlt => ?_) (fun hge => ?_)
  · obtain ⟨s, hs⟩ : ∃ s, l[k]? = some s := ⟨_, List.getElem?_eq_getElem (by omega)⟩
    have hrow : (l.map Step.row)[k]? = some s.row := by rw [List.getElem?_map, hs]; rfl
    have hfd := firstF_drop hs
    refine WA ?_
    refine WR ?_
    refine al_ef rfl (ef_call0 false (fun _ => fault_a s) rfl .fn rfl (by decide) (by kernel_rfl) rfl (fun _ => C0 rfl) (by simp)) ?_
    rintro _ _ ⟨_, _, _, ⟨rfl, rfl⟩, hF, hH⟩
    (try simp only [nsl, Nat.reduceAdd, Nat.reduceLT, Nat.reduceSub] at hF); (try simp only [nsl, Nat.reduceAdd, Nat.reduceLT, Nat.reduceSub] at hH); subst hF; subst hH
    refine WE ?_
    refine WA ?_
    refine aw_if rfl (fun hne => ?_) (fun heq => ?_)
    · refine WA ?_
      refine aret_1 [] _ rfl rfl rfl (by decide) (ZNK rfl) (fun _ => .nil) ⟨?_, rfl⟩
      rw [progF, if_neg (by omega), ← hf, hfd, if_neg hne]
    · refine WA ?_
      refine wk_of [] (fun _ => [(9, .c (prog_r v l)), (10, .c (I (l.map Step.row).length)), (11, .c (I (k + 1 : Nat)))]) (fun _ => _) (by decide) (ZNL hE) ZCF (fun _ => .nil) (fun _ => ?_)
      exact ⟨m - 1, by omega, k + 1, by omega, by rw [← hf, hfd, if_pos (by omega)], rfl, rfl⟩
  refine WA ?_
  refine aret_1 [] _ rfl rfl rfl (by decide) (ZNK rfl) (fun _ => .nil) ⟨?_, rfl⟩
  rw [progF, if_neg (by omega), ← hf, List.drop_eq_nil_of_le (by omega)]; rfl
end Go.Proofs.YtdmeohgojdfmoaaGreatDoor

/- Running programs, by value. -/
namespace Go.Proofs.YtdmeohgojdfmoaaGreatDoor
open Go Go.RowKit
set_option maxRecDepth 100000
theorem lastS_succ {l : List Step} {k : Nat} {s : Step} (h : l[k]? = some s) : lastS (l.take (k + 1)) = afterS (lastS (l.take k)) s := by
  rw [take_next h, lastS, List.foldl_append]; rfl
theorem last1_a (k : Int) (a b : Mach) : ACalls Tryz.prog 93 [.c (I k), .a (a.row.map .c), .a (b.row.map .c)] [] fun u H => u = .t [] ∧ H = [] := by
  refine acalls_of (N := 6) Tryz.func93 rfl rfl (by simp) fun E hE => ?_
  refine WA ?_
  exact aret_0 [] (fun _ => []) (.inr rfl) rfl (by decide) (ZNK rfl) (fun _ => .nil) (fun _ => ⟨rfl, rfl⟩)
theorem runLast_a (l : List Step) (v : Value) (hl : l.length ≤ 1000000) (hok : ∀ s ∈ l, s.ok) : ACalls Tryz.prog 91 [.c (prog_r v l), .f (.func 93) []] [] fun u H => u = .a ((lastS l).row.map .c) ∧ H = [] := by
  have e1 : (l.map Step.row).length = l.length := by simp
  refine acalls_of (N := 27) Tryz.func91 rfl rfl (by simp) fun E hE => ?_
  refine WA ?_
  refine WA ?_
  refine WA ?_
  refine aw_loopw (fun n F H => ∃ k : Nat, n + k = l.length ∧ F = [(1, .f (.func 93) []), (4, .p 0 0 0), (5, .p 1 0 0), (9, .c (prog_r v l)), (10, .c (I (l.map Step.row).length)), (11, .c (I k))] ∧ H = [.box (Mach.zero.row.map .c), .box ((lastS (l.take k)).row.map .c)]) ?_ ?_
  · refine wk_of [some 0, some 1] (fun _ => [(1, .f (.func 93) []), (4, .p 0 0 0), (5, .p 1 0 0), (9, .c (prog_r v l)), (10, .c (I (l.map Step.row).length)), (11, .c (I (0 : Nat)))]) (fun _ => _) (by decide) (ZNL hE) ZCF ZCH (fun _ => ?_)
    exact ⟨l.length, 0, by omega, rfl, rfl⟩
  rintro n F H ⟨k, hk, rfl, rfl⟩
  refine WA ?_
  refine aw_if rfl (fun hlt => ?_) (fun hge => ?_)
  · obtain ⟨s, hs⟩ : ∃ s, l[k]? = some s := ⟨_, List.getElem?_eq_getElem (by omega)⟩
    have hrow : (l.map Step.row)[k]? = some s.row := by rw [List.getElem?_map, hs]; rfl
    have hso := hok s (List.mem_of_getElem? hs)
    refine WA ?_
    refine WA ?_
    refine WR ?_
    refine al_ef rfl (ef_call0 false (fun _ => after_a (lastS (l.take k)) s hso) rfl .fn rfl (by decide) (by kernel_rfl) rfl (fun _ => C0 rfl) (by simp)) ?_
    rintro _ _ ⟨_, _, _, ⟨rfl, rfl⟩, hF, hH⟩
    (try simp only [nsl, Nat.reduceAdd, Nat.reduceLT, Nat.reduceSub] at hF); (try simp only [nsl, Nat.reduceAdd, Nat.reduceLT, Nat.reduceSub] at hH); subst hF; subst hH
    refine WE ?_
    refine WR ?_
    refine al_ef rfl (ef_call0 false (fun _ => last1_a k (lastS (l.take k)) (afterS (lastS (l.take k)) s)) rfl (.clo rfl) rfl (by decide) (by kernel_rfl) rfl (fun _ => C0 rfl) (by simp)) ?_
    rintro _ _ ⟨_, _, _, ⟨rfl, rfl⟩, hF, hH⟩
    (try simp only [nsl, Nat.reduceAdd, Nat.reduceLT, Nat.reduceSub] at hF); (try simp only [nsl, Nat.reduceAdd, Nat.reduceLT, Nat.reduceSub] at hH); subst hF; subst hH
    refine WE ?_
    refine WA ?_
    refine wk_of [some 0, some 1] (fun _ => [(1, .f (.func 93) []), (4, .p 0 0 0), (5, .p 1 0 0), (9, .c (prog_r v l)), (10, .c (I (l.map Step.row).length)), (11, .c (I (k + 1 : Nat)))]) (fun _ => _) (by decide) (ZNL hE) ZCF ZCH (fun _ => ?_)
    exact ⟨n - 1, by omega, k + 1, by omega, rfl, by rw [lastS_succ hs]; rfl⟩
  refine WA ?_
  refine aret_a [] _ rfl (KK (t := 60) rfl) rfl (Cells.box rfl) (by simp) (by (try simp only [nm, putL, Nat.reduceAdd, cellsOf, cvOf]) <;> rfl) (by decide) (ZNK rfl) (fun _ => C0 rfl) (fun _ => .nil) ⟨?_, rfl⟩
  rw [List.take_of_length_le (by omega)]; rfl
theorem last_a (l : List Step) (v : Value) (hl : l.length ≤ 1000000) (hok : ∀ s ∈ l, s.ok) : ACalls Tryz.prog 34 [.c (prog_r v l)] [] fun u H => u = .t [.a ((if progF l = 0 then lastS l else Mach.zero).row.map .c), .c (I (progF l))] ∧ H = [] := by
  refine acalls_of (N := 13) Tryz.func34 rfl rfl (by simp) fun E hE => ?_
  refine WA ?_
  refine WR ?_
  refine al_ef rfl (ef_call0 false (fun _ => check_a l v (by omega)) rfl .fn rfl (by decide) (by kernel_rfl) rfl (fun _ => C0 rfl) (by simp)) ?_
  rintro _ _ ⟨_, _, _, ⟨rfl, rfl⟩, hF, hH⟩
  (try simp only [nsl, Nat.reduceAdd, Nat.reduceLT, Nat.reduceSub] at hF); (try simp only [nsl, Nat.reduceAdd, Nat.reduceLT, Nat.reduceSub] at hH); subst hF; subst hH
  refine WE ?_
  refine WA ?_
  refine aw_if rfl (fun hne => ?_) (fun heq => ?_)
  · refine WA ?_
    exact aret_a2 [] _ rfl (KK (t := 60) rfl) rfl (Cells.box rfl) (by simp) (by (try simp only [nm, putL, Nat.reduceAdd, cellsOf, cvOf]) <;> rfl) rfl rfl (by decide) (ZNK rfl) (fun _ => C0 rfl) (fun _ => .nil) ⟨by rw [if_neg hne]; rfl, rfl⟩
  · have h0 : progF l = 0 := by omega
    refine ZZ ?_
    refine WR ?_
    refine al_ef rfl (ef_call0 false (fun _ => runLast_a l v hl hok) rfl .fn rfl (by decide) (by kernel_rfl) rfl (fun _ => C0 rfl) (by simp)) ?_
    rintro _ _ ⟨_, _, _, ⟨rfl, rfl⟩, hF, hH⟩
    (try simp only [nsl, Nat.reduceAdd, Nat.reduceLT, Nat.reduceSub] at hF); (try simp only [nsl, Nat.reduceAdd, Nat.reduceLT, Nat.reduceSub] at hH); subst hF; subst hH
    refine WE ?_
    exact aret_a2 [] _ rfl (KK (t := 60) rfl) rfl (Cells.box rfl) (by simp) (by (try simp only [nm, putL, Nat.reduceAdd, cellsOf, cvOf]) <;> rfl) rfl rfl (by decide) (ZNK rfl) (fun _ => C0 rfl) (fun _ => .nil) ⟨by rw [if_pos h0, h0]; rfl, rfl⟩
end Go.Proofs.YtdmeohgojdfmoaaGreatDoor
