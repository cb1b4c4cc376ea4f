/- NotesFault, by value. -/
import Derived.Test.YtlhbfcfjepbhpaaGreatDoorQbg
import Derived.Test.YtlhbfcfjepbhpaaGreatDoorQax
import Derived.Test.YtlhbfcfjepbhpaaGreatDoorQbd
set_option linter.unusedSimpArgs false
set_option linter.unusedVariables false
-- NEWM
namespace Go.Proofs.YtlhbfcfjepbhpaaGreatDoor
open Go Go.RowKit
set_option maxRecDepth 1000000
theorem arg_sz {st : List UInt8} {no a k : Int} {r : List (List UInt8)} {y : Nt} (h : argF st no a k r = some y) (P : List UInt8 → Prop) (h0 : P []) (hst : P st) (hr : ∀ w ∈ r, P w) : P y.st ∧ P y.pr ∧ P y.jb ∧ P y.sp ∧ P y.of_ := by
 unfold argF at h
 repeat' split at h
 all_goals first
  | (cases h; done)
  | (obtain ⟨n, _, rfl⟩ := Option.map_eq_some_iff.1 h; refine ⟨?_, ?_, ?_, ?_, ?_⟩ <;> first | exact h0 | exact hst | exact hr _ (by simp))
  | (obtain rfl := Option.some.inj h; refine ⟨?_, ?_, ?_, ?_, ?_⟩ <;> first | exact h0 | exact hst | exact hr _ (by simp))
theorem rn_sz {s : List UInt8} {y : Nt} (hl : s.length ≤ 1000000) (h : rnF s = some y) : NtS y := by
 unfold rnF wrdsF at h
 split at h
 ·cases h
 rw [Option.bind_some] at h
 have hw : ∀ w ∈ spl 32 s, w.length ≤ 1000000 := fun w hw => by
  have := (zs3 (c := 32) _ s rfl w hw).2.1
  omega
 generalize spl 32 s = l at h hw
 rcases l with _ | ⟨a, _ | ⟨b, _ | ⟨c, _ | ⟨d, r⟩⟩⟩⟩
 ·cases h
 ·cases h
 ·cases h
 ·cases h
 ·unfold rwF at h
  change (match numF b, numF c with | some no, some a2 => argF a no a2 (kwI d) r | _, _ => none) = some y at h
  split at h
  ·obtain ⟨h1, h2, h3, h4, h5⟩ := arg_sz h (fun w => w.length ≤ 1000000) (by simp) (hw _ (by simp)) fun w hm => hw w (by simp [hm])
   exact ⟨h1, h2, h3, h4, h5⟩
  ·cases h
set_option maxHeartbeats 1000000 in
theorem read_v (t : List UInt8) (hl : t.length ≤ 1000000) : ACalls Tryz.prog 13 [.c (T t)] [] fun u H => (∃ V, u = .t [.c (.r V (noRs (rdF t).1)), .c (I (rdF t).2.1), .c (I (rdF t).2.2)]) ∧ H = [] := by
 refine zg (N := 58) Tryz.func13 rfl rfl (by simp) fun E hE => ?_
 refine WA ?_
 refine WA ?_
 refine zw rfl (fun hlt => ?_) (fun hlt => ?_)
 ·rw [show rdF t = ([], 0, 2) by unfold rdF; rw [if_pos (by omega)]]
  refine WA ?_
  exact zu (us := [.c (.r (.slice none 0 0) []), .c (I 0), .c (I 2)]) [] (fun _ => .t [.c (.r (.slice none 0 0) []), .c (I 0), .c (I 2)]) (fun _ => []) (.tmp rfl (.tmp rfl (.tmp rfl .nil))) (by decide) (ZNK rfl) (fun _ => .tL (.cons (.c rfl) (.cons (.c rfl) (.cons (.c rfl) .nil)))) ZCH (fun _ => ⟨⟨_, rfl⟩, rfl⟩)
 have hlt2 : ¬ 200000 < t.length := by omega
 obtain ⟨ls, en, hls⟩ : ∃ ls en, lnsF t = (ls, en) := ⟨_, _, rfl⟩
 have hsz : ls.length ≤ 200001 ∧ ∀ s ∈ ls, s.length ≤ 1000000 := by
  unfold lnsF at hls
  split at hls
  ·injection hls with h1 h2; subst h1; exact ⟨by simp, by simp⟩
  split at hls
  ·injection hls with h1 h2; subst h1
   have h3 := List.count_le_length (a := 10) (l := t.dropLast)
   refine ⟨by rw [zN2]; simp at h3; omega, fun s hs => ?_⟩
   have h4 := (zs3 (c := 10) _ _ rfl s hs).2.1
   simp at h4; omega
  ·injection hls with h1 h2; subst h1
   have h3 := List.count_le_length (a := 10) (l := t)
   refine ⟨by rw [zN2]; omega, fun s hs => ?_⟩
   have h4 := (zs3 (c := 10) _ _ rfl s hs).2.1
   omega
 obtain ⟨hs1, hs2⟩ := hsz
 have eL : (wR ls).length = ls.length := by simp
 refine ZZ ?_
 refine WR ?_
 refine zf rfl (zc false (fun _ => lines_v t (by omega)) rfl .fn rfl (by decide) (by kernel_rfl) rfl (fun _ => C0 rfl) (by simp)) ?_
 rintro _ _ ⟨_, _, _, ⟨⟨vl, rfl⟩, rfl⟩, hF, hH⟩
 rw [hls] at hF
 (refine NST hF hH ?_; clear hF hH; rintro rfl rfl)
 refine WE ?_
 refine WA ?_
 refine WA ?_
 refine zK (fun m F H => ∃ (k co : Nat) (out : List Nt), m + k = ls.length ∧ out.length = k ∧ k ≤ co ∧ rdI en ls k out ∧ (∀ x ∈ out, NtS x) ∧ F = [(5, .c (.r vl (wR ls))), (6, .c (B en)), (7, .o 0 0 out.length co), (21, .c (.r vl (wR ls))), (22, .c (I (wR ls).length)), (23, .c (I k))] ∧ H = [.arr 39 10 co (noRs out)]) ?_ ?_
 ·refine zp [none] (fun _ => [(5, .c (.r vl (wR ls))), (6, .c (B en)), (7, .o 0 0 0 0), (21, .c (.r vl (wR ls))), (22, .c (I (wR ls).length)), (23, .c (I (0 : Nat)))]) (fun _ => [.arr 39 10 0 []]) (by decide) (ZNL hE) ZCF ZCH (fun _ => ⟨_, 0, 0, [], rfl, rfl, Nat.le_refl _, rdI_0 en ls, by simp, rfl, rfl⟩)
 rintro m F H ⟨k, co, out, hk, hok, hco, hin, hos, rfl, rfl⟩
 have eO : (noRs out).length = out.length := by simp
 refine WA ?_
 refine zw rfl (fun hlt3 => ?_) (fun hge => ?_)
 ·obtain ⟨s, hs⟩ : ∃ s, ls[k]? = some s := ⟨_, List.getElem?_eq_getElem (by omega)⟩
  have hrow : (wR ls)[k]? = some [T s] := by rw [List.getElem?_map, hs]; rfl
  have hsl := hs2 s (List.mem_of_getElem? hs)
  obtain ⟨qn, hqn⟩ : ∃ q, (rnF s).isSome = q := ⟨_, rfl⟩
  refine WA ?_
  refine WR ?_
  refine zf rfl (zc false (fun _ => readnote_v s hsl) rfl .fn rfl (by decide) (by kernel_rfl) rfl (fun _ => C0 rfl) (by simp)) ?_
  rintro _ _ ⟨_, _, _, ⟨x, rfl, hx, rfl⟩, hF, hH⟩
  obtain ⟨x1, x2, x3, x4, x5, x6, x7, x8, x9, x10⟩ := x
  rw [hqn] at hF
  (refine NST hF hH ?_; clear hF hH; rintro rfl rfl)
  refine WE ?_
  cases qn with
  | false =>
   have hrn : rnF s = none := by cases h : rnF s with | none => rfl | some y => rw [h] at hqn; cases hqn
   refine WA ?_
   rw [show rdF t = ([], (k : Int), 9) by unfold rdF; rw [if_neg hlt2, hls]; simp only; rw [rdI_bad hin hs (.inl hrn)]; rfl]
   refine zb rfl ?_
   refine ZZ ?_
   refine WA ?_
   exact zu (us := [.c (.r (.slice none 0 0) []), .c (I (k : Nat)), .c (I 9)]) [] (fun _ => .t [.c (.r (.slice none 0 0) []), .c (I (k : Nat)), .c (I 9)]) (fun _ => []) (.tmp rfl (.tmp rfl (.tmp rfl .nil))) (by decide) (ZNK rfl) (fun _ => .tL (.cons (.c rfl) (.cons (.c rfl) (.cons (.c rfl) .nil)))) ZCH (fun _ => ⟨⟨_, rfl⟩, rfl⟩)
  | true =>
   obtain ⟨y, hy⟩ : ∃ y, rnF s = some y := Option.isSome_iff_exists.1 hqn
   have hxy := hx y hy
   have hys := rn_sz hsl hy
   by_cases hen : en = false ∧ k + 1 = ls.length
   ·obtain ⟨rfl, hkl⟩ := hen
    have hke : (k : Int) = ((wR ls).length : Int) - 1 := by omega
    refine WA ?_
    rw [show rdF t = ([], (k : Int), 9) by unfold rdF; rw [if_neg hlt2, hls]; simp only; rw [rdI_bad hin hs (.inr ⟨rfl, hkl⟩)]; rfl]
    refine zb rfl ?_
    refine ZZ ?_
    refine WA ?_
    exact zu (us := [.c (.r (.slice none 0 0) []), .c (I (k : Nat)), .c (I 9)]) [] (fun _ => .t [.c (.r (.slice none 0 0) []), .c (I (k : Nat)), .c (I 9)]) (fun _ => []) (.tmp rfl (.tmp rfl (.tmp rfl .nil))) (by decide) (ZNK rfl) (fun _ => .tL (.cons (.c rfl) (.cons (.c rfl) (.cons (.c rfl) .nil)))) ZCH (fun _ => ⟨⟨_, rfl⟩, rfl⟩)
   ·have hnx := rdI_next hin hs hy hen
    rw [← hxy] at hnx hys
    refine zA1 (fun F H => F = [(5, .c (.r vl (wR ls))), (6, .c (B en)), (7, .o 0 0 out.length co), (10, .p 1 0 0), (21, .c (.r vl (wR ls))), (22, .c (I (wR ls).length)), (23, .c (I k)), (45, .c (B false))] ∧ H = [.arr 39 10 co (noRs out), .box [.c (T x1), .c (I x2), .c (I x3), .c (I x4), .c (T x5), .c (T x6), .c (T x7), .c (I x8), .c (T x9), .c (I x10)]]) ?_ ?_ zq2
    ·cases en with
     | true =>
      refine WA ?_
      refine zp [some 0, some 1] (fun _ => _) (fun _ => _) (by decide) (ZNL hE) ZCF ZCH (fun _ => ⟨rfl, rfl⟩)
     | false =>
      have hke : ¬ (k : Int) = ((wR ls).length : Int) - 1 := fun h => hen ⟨rfl, by omega⟩
      refine WA ?_
      refine zp [some 0, some 1] (fun _ => _) (fun _ => _) (by decide) (ZNL hE) ZCF ZCH (fun _ => ⟨rfl, rfl⟩)
    rintro F H ⟨rfl, rfl⟩
    refine za rfl ?_
    refine ZZ ?_
    refine WR ?_
    refine zf rfl (Zapp (KA (t := 26) rfl)) ?_
    rintro _ _ ⟨_, cc, hcc, rfl, rfl⟩
    refine WE ?_
    refine WA ?_
    refine zp [some 0] (fun _ => [(5, .c (.r vl (wR ls))), (6, .c (B en)), (7, .o 0 0 (out.length + 1) cc), (21, .c (.r vl (wR ls))), (22, .c (I (wR ls).length)), (23, .c (I (k + 1 : Nat)))]) (fun _ => [.arr 39 10 cc (noRs (out ++ [⟨x1, x2, x3, x4, x5, x6, x7, x8, x9, x10⟩]))]) (by decide) (ZNL hE) ZCF ?_ (fun _ => ⟨m - 1, by omega, k + 1, cc, _, by omega, by simp [hok], by omega, hnx, ?_, by simp, rfl⟩)
    ·exact fun _ => .arr rfl (by simp [noRs, noR]) .nil
    ·intro z hz
     rcases List.mem_append.1 hz with hz | hz
     ·exact hos z hz
     ·rw [List.mem_singleton] at hz; subst hz; exact hys
 ·obtain rfl : k = ls.length := by omega
  have hend := rdI_end (show rdI en ls ls.length out from hin)
  have hrd : rdF t = rdE (some out, (rdL en ls 0).2) := by
   unfold rdF
   rw [if_neg hlt2, hls]
   simp only
   rw [show rdL en ls 0 = ((rdL en ls 0).1, (rdL en ls 0).2) from rfl, hend]
  rw [hrd]
  clear hrd hin hend
  refine ZZ ?_
  refine WR ?_
  refine zf rfl (zc true (fun g => zc4 (g (.o 0 0 out.length co)) out (by omega) hos) rfl .fn rfl (by decide) (by kernel_rfl) rfl (fun _ => .cons (.frz rfl rfl (by rw [List.drop_zero, List.take_of_length_le (by simp)]) (by simp) rfl) .nil) (fun _ _ _ _ ⟨hu, hH⟩ => by rw [hu, hH]; exact ⟨.c (.inl trivial), by simp⟩)) ?_
  rintro _ _ ⟨_, _, _, ⟨rfl, rfl⟩, hF, hH⟩
  (refine NST hF hH ?_; clear hF hH; rintro rfl rfl)
  refine WE ?_
  unfold rdE
  simp only
  generalize hck : chkN out = e
  refine WA ?_
  refine zw rfl (fun h0 => ?_) (fun h0 => ?_)
  ·rw [if_pos h0]
   refine WA ?_
   exact zu (us := [.c (.r (.slice none 0 0) []), .c (I 0), .c (I e)]) [] (fun _ => .t [.c (.r (.slice none 0 0) []), .c (I 0), .c (I e)]) (fun _ => []) (.tmp rfl (.tmp rfl (.tmp rfl .nil))) (by decide) (ZNK rfl) (fun _ => .tL (.cons (.c rfl) (.cons (.c rfl) (.cons (.c rfl) .nil)))) ZCH (fun _ => ⟨⟨_, rfl⟩, rfl⟩)
  ·rw [if_neg h0]
   refine ZZ ?_
   refine WA ?_
   exact zu (us := [.o 0 0 out.length co, .c (I 0), .c (I 0)]) [] (fun g => .t [.c (.r (g (.o 0 0 out.length co)) (noRs out)), .c (I 0), .c (I 0)]) (fun _ => []) (.tmp rfl (.tmp rfl (.tmp rfl .nil))) (by decide) (ZNK rfl) (fun _ => .tL (.cons (.frz rfl rfl (by rw [List.drop_zero, List.take_of_length_le (by simp)]) (by simp) rfl) (.cons (.c rfl) (.cons (.c rfl) .nil)))) ZCH (fun _ => ⟨⟨_, rfl⟩, rfl⟩)
end Go.Proofs.YtlhbfcfjepbhpaaGreatDoor
-- NEWM
namespace Go.Proofs.YtlhbfcfjepbhpaaGreatDoor
open Go Go.RowKit
set_option maxRecDepth 100000
theorem idxB_app {c : UInt8} : ∀ {a b : List UInt8} {i : Nat}, c ∉ a → idxB c (a ++ c :: b) i = ((i + a.length : Nat) : Int)
 | [], b, i, _ => by simp [idxB]
 | x :: a, b, i, h => by
  have hx : ¬ x = c := fun e => h (e ▸ List.mem_cons_self)
  have ha : c ∉ a := fun e => h (List.mem_cons_of_mem _ e)
  rw [List.cons_append, idxB]
  have h2 := idxB_app (b := b) (i := i + 1) ha
  simp only [hx, if_false]
  rw [h2, List.length_cons]
  congr 1
  omega
theorem idxB_no {c : UInt8} {l : List UInt8} (h : c ∉ l) : idxB c l 0 < 0 := by
 have h2 : ¬ 0 ≤ idxB c l 0 := fun h3 => h (idxB_neg.1 h3)
 omega
theorem cut0_yes (a b : List UInt8) (c : UInt8) (h : c ∉ a) (hl : a.length + b.length ≤ 1000000000) : ACalls Tryz.prog 156 [.c (T (a ++ c :: b)), .c (T [c])] [] fun u H => u = .t [.c (T a), .c (T b), .c (B true)] ∧ H = [] := by
 have hix : idxB c (a ++ c :: b) 0 = (a.length : Int) := by rw [idxB_app h, Nat.zero_add]
 have hw : wrap64 ((a.length : Int) + (([c] : List UInt8).length : Int)) = ((a.length + 1 : Nat) : Int) := by
  have e : (([c] : List UInt8).length : Int) = 1 := rfl
  rw [e]
  exact (Zwr (by omega)).trans (by omega)
 have e1 : (List.take a.length (a ++ c :: b)).drop 0 = a := by simp
 have e2 : (List.take (a ++ c :: b).length (a ++ c :: b)).drop (a.length + 1) = b := by
  rw [List.take_length, ← List.drop_drop]
  simp
 refine zg (N := 23) Tryz.func156 rfl rfl (by simp) fun E hE => ?_
 refine WA ?_
 refine WR ?_
 refine zf rfl (zc false (fun _ => ix1_v _ c) rfl .fn rfl (by decide) (by kernel_rfl) rfl (fun _ => C0 rfl) (by simp)) ?_
 rintro _ _ ⟨_, _, _, ⟨rfl, rfl⟩, hF, hH⟩
 (refine NST hF hH ?_; clear hF hH; rintro rfl rfl)
 refine WE ?_
 rw [hix]
 refine WA ?_
 refine zb rfl ?_
 refine ZZ ?_
 refine zk [(0, none), (1, none), (2, none), (3, none), (4, none), (5, none), (6, none), (7, none), (8, none), (9, none), (10, none), (11, none)] zS (by kernel_rfl) ?_
 iterate 2 refine WX2 ?_
 refine ZT rfl (zr1 (i := 0) (j := a.length) rfl Tryz.underlying9 rfl (.inl ⟨rfl, rfl⟩) (.inr ⟨_, _, _, rfl, rfl, rfl⟩) (by omega) (by simp)) ?_
 iterate 5 refine WX2 ?_
 refine ZT rfl (zr1 (i := a.length + 1) (j := (a ++ c :: b).length) rfl Tryz.underlying9 rfl (.inr ⟨_, _, _, rfl, rfl, hw⟩) (.inl ⟨rfl, rfl⟩) (by simp) (Nat.le_refl _)) ?_
 refine WQ ?_
 rw [e1, e2]
 exact zu (us := [.c (T a), .c (T b), .c (B true)]) [] (fun _ => .t [.c (T a), .c (T b), .c (B true)]) (fun _ => []) (.tmp rfl (.tmp rfl (.tmp rfl .nil))) (by decide) (ZNK rfl) (fun _ => .tL (.cons (.c rfl) (.cons (.c rfl) (.cons (.c rfl) .nil)))) ZCH (fun _ => ⟨rfl, rfl⟩)
theorem cut0_no (s : List UInt8) (c : UInt8) (h : c ∉ s) : ACalls Tryz.prog 156 [.c (T s), .c (T [c])] [] fun u H => u = .t [.c (T s), .c (T []), .c (B false)] ∧ H = [] := by
 have hix := idxB_no h
 refine zg (N := 23) Tryz.func156 rfl rfl (by simp) fun E hE => ?_
 refine WA ?_
 refine WR ?_
 refine zf rfl (zc false (fun _ => ix1_v s c) rfl .fn rfl (by decide) (by kernel_rfl) rfl (fun _ => C0 rfl) (by simp)) ?_
 rintro _ _ ⟨_, _, _, ⟨rfl, rfl⟩, hF, hH⟩
 (refine NST hF hH ?_; clear hF hH; rintro rfl rfl)
 refine WE ?_
 generalize idxB c s 0 = i at hix ⊢
 have hn : ¬ i ≥ 0 := by omega
 refine WA ?_
 refine za rfl ?_
 refine ZZ ?_
 refine WA ?_
 exact zu (us := [.c (T s), .c (T []), .c (B false)]) [] (fun _ => .t [.c (T s), .c (T []), .c (B false)]) (fun _ => []) (.tmp rfl (.tmp rfl (.tmp rfl .nil))) (by decide) (ZNK rfl) (fun _ => .tL (.cons (.c rfl) (.cons (.c rfl) (.cons (.c rfl) .nil)))) ZCH (fun _ => ⟨rfl, rfl⟩)
theorem cut_yes (a b : List UInt8) (c : UInt8) (h : c ∉ a) (hl : a.length + b.length ≤ 1000000000) : ACalls Tryz.prog 99 [.c (T (a ++ c :: b)), .c (T [c])] [] fun u H => u = .t [.c (T a), .c (T b), .c (B true)] ∧ H = [] := by
 refine zg (N := 13) Tryz.func99 rfl rfl (by simp) fun E hE => ?_
 refine WA ?_
 refine WR ?_
 refine zf rfl (zc false (fun _ => cut0_yes a b c h hl) rfl .fn rfl (by decide) (by kernel_rfl) rfl (fun _ => C0 rfl) (by simp)) ?_
 rintro _ _ ⟨_, _, _, ⟨rfl, rfl⟩, hF, hH⟩
 (refine NST hF hH ?_; clear hF hH; rintro rfl rfl)
 refine WE ?_
 exact zu (us := [.c (T a), .c (T b), .c (B true)]) [] (fun _ => .t [.c (T a), .c (T b), .c (B true)]) (fun _ => []) (.tmp rfl (.tmp rfl (.tmp rfl .nil))) (by decide) (ZNK rfl) (fun _ => .tL (.cons (.c rfl) (.cons (.c rfl) (.cons (.c rfl) .nil)))) ZCH (fun _ => ⟨rfl, rfl⟩)
theorem cut_no (s : List UInt8) (c : UInt8) (h : c ∉ s) : ACalls Tryz.prog 99 [.c (T s), .c (T [c])] [] fun u H => u = .t [.c (T s), .c (T []), .c (B false)] ∧ H = [] := by
 refine zg (N := 13) Tryz.func99 rfl rfl (by simp) fun E hE => ?_
 refine WA ?_
 refine WR ?_
 refine zf rfl (zc false (fun _ => cut0_no s c h) rfl .fn rfl (by decide) (by kernel_rfl) rfl (fun _ => C0 rfl) (by simp)) ?_
 rintro _ _ ⟨_, _, _, ⟨rfl, rfl⟩, hF, hH⟩
 (refine NST hF hH ?_; clear hF hH; rintro rfl rfl)
 refine WE ?_
 exact zu (us := [.c (T s), .c (T []), .c (B false)]) [] (fun _ => .t [.c (T s), .c (T []), .c (B false)]) (fun _ => []) (.tmp rfl (.tmp rfl (.tmp rfl .nil))) (by decide) (ZNK rfl) (fun _ => .tL (.cons (.c rfl) (.cons (.c rfl) (.cons (.c rfl) .nil)))) ZCH (fun _ => ⟨rfl, rfl⟩)
end Go.Proofs.YtlhbfcfjepbhpaaGreatDoor
-- NEWM
namespace Go.Proofs.YtlhbfcfjepbhpaaGreatDoor
open Go Go.RowKit
set_option maxRecDepth 100000
def snB (a b : Nt) : Bool := decide (a.st = b.st) && decide (a.no = b.no)
theorem samenote_v (a b : Nt) : ACalls Tryz.prog 60 [noA a, noA b] [] fun u H => u = .c (B (snB a b)) ∧ H = [] := by
 obtain ⟨a0, a1, a2, a3, a4, a5, a6, a7, a8, a9⟩ := a
 obtain ⟨c0, c1, c2, c3, c4, c5, c6, c7, c8, c9⟩ := b
 show ACalls _ _ [.a [.c (T a0), .c (I a1), .c (I a2), .c (I a3), .c (T a4), .c (T a5), .c (T a6), .c (I a7), .c (T a8), .c (I a9)], .a [.c (T c0), .c (I c1), .c (I c2), .c (I c3), .c (T c4), .c (T c5), .c (T c6), .c (I c7), .c (T c8), .c (I c9)]] [] fun u H => u = .c (B (decide (a0 = c0) && decide (a1 = c1))) ∧ H = []
 obtain ⟨q, hq⟩ : ∃ q, decide (a0 = c0) = q := ⟨_, rfl⟩
 rw [hq]
 refine zg (N := 17) Tryz.func60 rfl rfl (by simp) fun E hE => ?_
 cases q
 ·repeat' (first
   | (with_reducible refine zC ?_) | (with_reducible refine zA ?_) | (with_reducible refine zE ?_) | (with_reducible refine zI ?_) | (with_reducible refine zG ?_) | (with_reducible refine zJ ?_) | (with_reducible refine zH rfl ?_) | (with_reducible refine zF ?_) | (with_reducible refine zq ?_) | (with_reducible refine zj ?_) | (with_reducible refine zD ?_) | (with_reducible refine zt ?_)
   | refine zb rfl ?_ | refine za rfl ?_ | refine zr rfl (by assumption) ?_ | refine zo rfl (by assumption) ?_ | refine zw rfl (fun _ => ?_) (fun _ => ?_) | refine zn rfl (fun _ => ?_) (fun _ => ?_)
   | (refine zd (id := 1) ?_
      iterate 4 refine WX1 ?_
      refine ZA (zO (a := a0) (b := c0) hq rfl Tryz.underlying9 rfl rfl) ?_
      refine WE ?_)
   | (refine zd ?_; refine WE ?_))
  exact zh [] _ rfl rfl rfl (by decide) (ZNK rfl) (fun _ => .nil) ⟨rfl, rfl⟩
 ·by_cases h : a1 = c1
  ·repeat' (first
    | (with_reducible refine zC ?_) | (with_reducible refine zA ?_) | (with_reducible refine zE ?_) | (with_reducible refine zI ?_) | (with_reducible refine zG ?_) | (with_reducible refine zJ ?_) | (with_reducible refine zH rfl ?_) | (with_reducible refine zF ?_) | (with_reducible refine zq ?_) | (with_reducible refine zj ?_) | (with_reducible refine zD ?_) | (with_reducible refine zt ?_)
    | refine zb rfl ?_ | refine za rfl ?_ | refine zr rfl (by assumption) ?_ | refine zo rfl (by assumption) ?_ | refine zw rfl (fun _ => ?_) (fun _ => ?_) | refine zn rfl (fun _ => ?_) (fun _ => ?_)
    | (refine zd (id := 1) ?_
       iterate 4 refine WX1 ?_
       refine ZA (zO (a := a0) (b := c0) hq rfl Tryz.underlying9 rfl rfl) ?_
       refine WE ?_)
    | (refine zd ?_; refine WE ?_))
   exact zh [] _ rfl rfl rfl (by decide) (ZNK rfl) (fun _ => .nil) ⟨by rw [decide_eq_true h]; rfl, rfl⟩
  ·repeat' (first
    | (with_reducible refine zC ?_) | (with_reducible refine zA ?_) | (with_reducible refine zE ?_) | (with_reducible refine zI ?_) | (with_reducible refine zG ?_) | (with_reducible refine zJ ?_) | (with_reducible refine zH rfl ?_) | (with_reducible refine zF ?_) | (with_reducible refine zq ?_) | (with_reducible refine zj ?_) | (with_reducible refine zD ?_) | (with_reducible refine zt ?_)
    | refine zb rfl ?_ | refine za rfl ?_ | refine zr rfl (by assumption) ?_ | refine zo rfl (by assumption) ?_ | refine zw rfl (fun _ => ?_) (fun _ => ?_) | refine zn rfl (fun _ => ?_) (fun _ => ?_)
    | (refine zd (id := 1) ?_
       iterate 4 refine WX1 ?_
       refine ZA (zO (a := a0) (b := c0) hq rfl Tryz.underlying9 rfl rfl) ?_
       refine WE ?_)
    | (refine zd ?_; refine WE ?_))
   exact zh [] _ rfl rfl rfl (by decide) (ZNK rfl) (fun _ => .nil) ⟨by rw [decide_eq_false h]; rfl, rfl⟩
theorem nf1_v (a b : Nt) : ACalls Tryz.prog 59 [noA a, .p 0 0 0] [.box ((noR b).map .c)] fun u H => u = .c (B (snB a b)) ∧ H = [.box ((noR b).map .c)] := by
 obtain ⟨a0, a1, a2, a3, a4, a5, a6, a7, a8, a9⟩ := a
 obtain ⟨c0, c1, c2, c3, c4, c5, c6, c7, c8, c9⟩ := b
 show ACalls _ _ [.a [.c (T a0), .c (I a1), .c (I a2), .c (I a3), .c (T a4), .c (T a5), .c (T a6), .c (I a7), .c (T a8), .c (I a9)], .p 0 0 0] [.box [.c (T c0), .c (I c1), .c (I c2), .c (I c3), .c (T c4), .c (T c5), .c (T c6), .c (I c7), .c (T c8), .c (I c9)]] fun u H => u = .c (B (snB ⟨a0, a1, a2, a3, a4, a5, a6, a7, a8, a9⟩ ⟨c0, c1, c2, c3, c4, c5, c6, c7, c8, c9⟩)) ∧ H = [.box [.c (T c0), .c (I c1), .c (I c2), .c (I c3), .c (T c4), .c (T c5), .c (T c6), .c (I c7), .c (T c8), .c (I c9)]]
 refine zg (N := 7) Tryz.func59 rfl rfl (by simp) fun E hE => ?_
 refine WA ?_
 refine WR ?_
 refine zf rfl (zc false (fun _ => samenote_v ⟨a0, a1, a2, a3, a4, a5, a6, a7, a8, a9⟩ ⟨c0, c1, c2, c3, c4, c5, c6, c7, c8, c9⟩) rfl .fn rfl (by decide) (by kernel_rfl) rfl (fun _ => .cons (.aL (C0 rfl)) (.cons (.aL (C0 rfl)) .nil)) (by simp)) ?_
 rintro _ _ ⟨_, _, _, ⟨rfl, rfl⟩, hF, hH⟩
 (refine NST hF hH ?_; clear hF hH; rintro rfl rfl)
 refine WE ?_
 all_goals exact zh [some 0] [.box [.c (T c0), .c (I c1), .c (I c2), .c (I c3), .c (T c4), .c (T c5), .c (T c6), .c (I c7), .c (T c8), .c (I c9)]] rfl rfl rfl (by decide) (ZNK rfl) ZCH ⟨rfl, rfl⟩
def idxP (p : Nt → Bool) : List Nt → Nat → Int
 | [], _ => -1
 | x :: l, i => if p x = true then i else idxP p l (i + 1)
theorem idxP_any {p : Nt → Bool} : ∀ {l : List Nt} {i : Nat}, (0 ≤ idxP p l i ↔ l.any p = true)
 | [], i => by simp [idxP]
 | x :: l, i => by
  unfold idxP
  split
  ·rename_i h; simp [h]
  ·rename_i h; rw [idxP_any]; simp [h]
theorem indexN_v (fn : FuncId) (hfn : okFn Tryz.prog fn = true) (p : Nt → Bool) (b : Nt) (v : Value) (l : List Nt) (hl : l.length ≤ 1000000000) (hp : ∀ x ∈ l, ACalls Tryz.prog fn [noA x, .p 0 0 0] [.box ((noR b).map .c)] fun u H => u = .c (B (p x)) ∧ H = [.box ((noR b).map .c)]) :
    ACalls Tryz.prog 112 [.c (.r v (noRs l)), .f (.func fn) [.p 0 0 0]] [.box ((noR b).map .c)] fun u H => u = .c (I (idxP p l 0)) ∧ H = [.box ((noR b).map .c)] := by
 obtain ⟨c0, c1, c2, c3, c4, c5, c6, c7, c8, c9⟩ := b
 change ∀ x ∈ l, ACalls Tryz.prog fn [noA x, .p 0 0 0] [.box [.c (T c0), .c (I c1), .c (I c2), .c (I c3), .c (T c4), .c (T c5), .c (T c6), .c (I c7), .c (T c8), .c (I c9)]] fun u H => u = .c (B (p x)) ∧ H = [.box [.c (T c0), .c (I c1), .c (I c2), .c (I c3), .c (T c4), .c (T c5), .c (T c6), .c (I c7), .c (T c8), .c (I c9)]] at hp
 show ACalls _ _ _ [.box [.c (T c0), .c (I c1), .c (I c2), .c (I c3), .c (T c4), .c (T c5), .c (T c6), .c (I c7), .c (T c8), .c (I c9)]] fun u H => u = .c (I (idxP p l 0)) ∧ H = [.box [.c (T c0), .c (I c1), .c (I c2), .c (I c3), .c (T c4), .c (T c5), .c (T c6), .c (I c7), .c (T c8), .c (I c9)]]
 have e1 : (noRs l).length = l.length := by simp
 refine zg (N := 19) Tryz.func112 rfl rfl (by simp) fun E hE => ?_
 refine WA ?_
 refine WA ?_
 refine zK (fun m F H => ∃ (k : Nat), m + k = l.length ∧ idxP p (l.drop k) k = idxP p l 0 ∧ F = [(0, .c (.r v (noRs l))), (1, .f (.func fn) [.p 0 0 0]), (7, .c (I (noRs l).length)), (8, .c (I k))] ∧ H = [.box [.c (T c0), .c (I c1), .c (I c2), .c (I c3), .c (T c4), .c (T c5), .c (T c6), .c (I c7), .c (T c8), .c (I c9)]]) ?_ ?_
 ·refine zp [some 0] (fun _ => [(0, .c (.r v (noRs l))), (1, .f (.func fn) [.p 0 0 0]), (7, .c (I (noRs l).length)), (8, .c (I (0 : Nat)))]) (fun _ => [.box [.c (T c0), .c (I c1), .c (I c2), .c (I c3), .c (T c4), .c (T c5), .c (T c6), .c (I c7), .c (T c8), .c (I c9)]]) (by decide) (ZNL hE) ZCF ZCH (fun _ => ?_)
  exact ⟨l.length, 0, by omega, rfl, rfl, rfl⟩
 rintro m F H ⟨k, hk, hf, rfl, rfl⟩
 refine WA ?_
 refine zw rfl (fun hlt => ?_) (fun hge => ?_)
 ·obtain ⟨x, hx⟩ : ∃ n, l[k]? = some n := ⟨_, List.getElem?_eq_getElem (by omega)⟩
  have hrow0 := zf2 hx
  have hpx := hp x (List.mem_of_getElem? hx)
  rw [drop_at hx, idxP] at hf
  obtain ⟨q, hq⟩ : ∃ q, p x = q := ⟨_, rfl⟩
  rw [hq] at hf hpx
  obtain ⟨st, no, at_, kn, pr, jb, sp, n, of_, ot⟩ := x
  have hrow : (noRs l)[k]? = some [T st, I no, I at_, I kn, T pr, T jb, T sp, I n, T of_, I ot] := hrow0
  refine WA ?_
  refine WR ?_
  refine zf rfl (zX [0] (fun _ => [.box [.c (T c0), .c (I c1), .c (I c2), .c (I c3), .c (T c4), .c (T c5), .c (T c6), .c (I c7), .c (T c8), .c (I c9)]]) false (fun _ => hpx) rfl (.clo rfl) rfl (by decide) hfn rfl (fun _ => .cons (.aL (C0 rfl)) (.cons (.p rfl) .nil)) (by decide) ZCH (by simp)) ?_
  rintro F1 H1 ⟨_, _, _, _, ⟨rfl, rfl⟩, hF, hH⟩
  (refine NSU hF hH ?_; clear hF hH; rintro rfl rfl)
  refine WE ?_
  cases q with
  | true =>
   refine zb rfl ?_
   refine WA ?_
   exact zh [some 0] [.box [.c (T c0), .c (I c1), .c (I c2), .c (I c3), .c (T c4), .c (T c5), .c (T c6), .c (I c7), .c (T c8), .c (I c9)]] rfl rfl rfl (by decide) (ZNK rfl) ZCH ⟨by rw [← hf]; rfl, rfl⟩
  | false =>
   refine za rfl ?_
   refine ZZ ?_
   refine WA ?_
   refine zp [some 0] (fun _ => [(0, .c (.r v (noRs l))), (1, .f (.func fn) [.p 0 0 0]), (7, .c (I (noRs l).length)), (8, .c (I (k + 1 : Nat)))]) (fun _ => [.box [.c (T c0), .c (I c1), .c (I c2), .c (I c3), .c (T c4), .c (T c5), .c (T c6), .c (I c7), .c (T c8), .c (I c9)]]) (by decide) (ZNL hE) ZCF ZCH (fun _ => ?_)
   exact ⟨m - 1, by omega, k + 1, by omega, by rw [← hf]; rfl, rfl, rfl⟩
 refine ZZ ?_
 refine WA ?_
 exact zh [some 0] [.box [.c (T c0), .c (I c1), .c (I c2), .c (I c3), .c (T c4), .c (T c5), .c (T c6), .c (I c7), .c (T c8), .c (I c9)]] rfl rfl rfl (by decide) (ZNK rfl) ZCH ⟨by rw [← hf, List.drop_eq_nil_of_le (by omega)]; rfl, rfl⟩
end Go.Proofs.YtlhbfcfjepbhpaaGreatDoor
