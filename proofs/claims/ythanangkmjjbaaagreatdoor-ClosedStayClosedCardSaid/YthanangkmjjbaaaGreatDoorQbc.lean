/- Closed meshes of the stream, by value. -/
import Derived.Test.YthanangkmjjbaaaGreatDoorQbb
import Derived.Test.YthanangkmjjbaaaGreatDoorProg
import Derived.Test.YthanangkmjjbaaaGreatDoorQax
set_option linter.unusedSimpArgs false
set_option linter.unusedVariables false
/- The library's contracts of sorting lie at this program. -/
namespace Go.Proofs.YthanangkmjjbaaaGreatDoor
open Go Go.Shelf
set_option maxRecDepth 100000
def sortSideL_ren : Go.Shelf.Ren := ⟨fun | 6 => 59 | 15 => 116 | 14 => 115 | 28 => 165 | 29 => 166 | 20 => 157 | 21 => 158 | 22 => 159 | 23 => 160 | 24 => 161 | 25 => 162 | 26 => 163 | 27 => 164 | 46 => 209 | 47 => 210 | 48 => 211 | 49 => 212 | 50 => 213 | 57 => 251 | n => n, fun | 22 => 64 | 24 => 54 | 25 => 128 | 3 => 3 | 39 => 204 | 0 => 0 | 53 => 265 | 55 => 267 | 4 => 4 | 46 => 258 | 45 => 257 | 50 => 262 | 5 => 5 | 9 => 9 | 66 => 307 | 70 => 311 | 76 => 342 | 77 => 343 | n => n, fun | n => n⟩
theorem sortSideL : Go.Proofs.SlLaysF0.n6 Tryz.prog sortSideL_ren := {
  mixed := by kernel_rfl
  f6 := ⟨Tryz.f59.name, by decide, Tryz.func59.trans (congrArg some (by kernel_rfl))⟩
  f14 := ⟨Tryz.f115.name, by decide, Tryz.func115.trans (congrArg some (by kernel_rfl))⟩
  f15 := Tryz.func116.trans (congrArg some (by kernel_rfl))
  f20 := ⟨Tryz.f157.name, by decide, Tryz.func157.trans (congrArg some (by kernel_rfl))⟩
  f21 := ⟨Tryz.f158.name, by decide, Tryz.func158.trans (congrArg some (by kernel_rfl))⟩
  f22 := ⟨Tryz.f159.name, by decide, Tryz.func159.trans (congrArg some (by kernel_rfl))⟩
  f23 := ⟨Tryz.f160.name, by decide, Tryz.func160.trans (congrArg some (by kernel_rfl))⟩
  f24 := ⟨Tryz.f161.name, by decide, Tryz.func161.trans (congrArg some (by kernel_rfl))⟩
  f25 := ⟨Tryz.f162.name, by decide, Tryz.func162.trans (congrArg some (by kernel_rfl))⟩
  f26 := ⟨Tryz.f163.name, by decide, Tryz.func163.trans (congrArg some (by kernel_rfl))⟩
  f27 := ⟨Tryz.f164.name, by decide, Tryz.func164.trans (congrArg some (by kernel_rfl))⟩
  f28 := Tryz.func165.trans (congrArg some (by kernel_rfl))
  f29 := Tryz.func166.trans (congrArg some (by kernel_rfl))
  f46 := ⟨Tryz.f209.name, by decide, Tryz.func209.trans (congrArg some (by kernel_rfl))⟩
  f47 := Tryz.func210.trans (congrArg some (by kernel_rfl))
  f48 := Tryz.func211.trans (congrArg some (by kernel_rfl))
  f49 := ⟨Tryz.f212.name, by decide, Tryz.func212.trans (congrArg some (by kernel_rfl))⟩
  f50 := ⟨Tryz.f213.name, by decide, Tryz.func213.trans (congrArg some (by kernel_rfl))⟩
  f57 := ⟨Tryz.f251.name, by decide, Tryz.func251.trans (congrArg some (by kernel_rfl))⟩
  t0 := Tryz.underlying0
  a0 := Tryz.isAgg0
  z0 := Tryz.sizeOf0
  v0 := Tryz.zeroValue0
  t3 := Tryz.underlying3
  a3 := Tryz.isAgg3
  z3 := Tryz.sizeOf3
  v3 := Tryz.zeroValue3
  t4 := Tryz.underlying4
  a4 := Tryz.isAgg4
  z4 := Tryz.sizeOf4
  v4 := Tryz.zeroValue4
  t5 := Tryz.underlying5
  a5 := Tryz.isAgg5
  z5 := Tryz.sizeOf5
  v5 := Tryz.zeroValue5
  t9 := Tryz.underlying9
  a9 := Tryz.isAgg9
  z9 := Tryz.sizeOf9
  v9 := Tryz.zeroValue9
  t22 := Tryz.underlying64
  a22 := Tryz.isAgg64
  z22 := Tryz.sizeOf64
  v22 := Tryz.zeroValue64
  t25 := Tryz.underlying128
  a25 := Tryz.isAgg128
  z25 := Tryz.sizeOf128
  v25 := Tryz.zeroValue128
  t39 := Tryz.underlying204
  a39 := Tryz.isAgg204
  z39 := Tryz.sizeOf204
  v39 := Tryz.zeroValue204
  t45 := Tryz.underlying257
  a45 := Tryz.isAgg257
  z45 := Tryz.sizeOf257
  v45 := Tryz.zeroValue257
  t46 := Tryz.underlying258
  a46 := Tryz.isAgg258
  z46 := Tryz.sizeOf258
  v46 := Tryz.zeroValue258
  t50 := Tryz.underlying262
  a50 := Tryz.isAgg262
  z50 := Tryz.sizeOf262
  v50 := Tryz.zeroValue262
  t53 := Tryz.underlying265
  a53 := Tryz.isAgg265
  z53 := Tryz.sizeOf265
  v53 := Tryz.zeroValue265
  t55 := Tryz.underlying267
  a55 := Tryz.isAgg267
  z55 := Tryz.sizeOf267
  v55 := Tryz.zeroValue267
  t66 := Tryz.underlying307
  a66 := Tryz.isAgg307
  z66 := Tryz.sizeOf307
  v66 := Tryz.zeroValue307
  t70 := Tryz.underlying311
  a70 := Tryz.isAgg311
  z70 := Tryz.sizeOf311
  v70 := Tryz.zeroValue311
  t76 := Tryz.underlying342
  a76 := Tryz.isAgg342
  z76 := Tryz.sizeOf342
  v76 := Tryz.zeroValue342
  t77 := Tryz.underlying343
  a77 := Tryz.isAgg343
  z77 := Tryz.sizeOf343
  v77 := Tryz.zeroValue343 }
end Go.Proofs.YthanangkmjjbaaaGreatDoor

/- Levels: the program's and the reference's, by value. -/
-- NEWM
namespace Go.Proofs.YthanangkmjjbaaaGreatDoor
open Go Go.RowKit
set_option maxRecDepth 100000
end Go.Proofs.YthanangkmjjbaaaGreatDoor

/- How thick layers can be: slants and thickness, by value. -/
-- NEWM
namespace Go.Proofs.YthanangkmjjbaaaGreatDoor
open Go Go.RowKit
set_option maxRecDepth 100000
abbrev Slnt.row (s : Slnt) : List CV := [I s.low, I s.high, I s.most]
end Go.Proofs.YthanangkmjjbaaaGreatDoor

/- Slants of a mesh, by value. -/
namespace Go.Proofs.YthanangkmjjbaaaGreatDoor
open Go Go.RowKit
set_option maxRecDepth 100000
end Go.Proofs.YthanangkmjjbaaaGreatDoor

/- Adaptive tops: the program's, by value. -/
-- NEWM
namespace Go.Proofs.YthanangkmjjbaaaGreatDoor
open Go Go.RowKit
set_option maxRecDepth 100000
end Go.Proofs.YthanangkmjjbaaaGreatDoor

/- Faults of what Adaptive is asked, by value. -/
-- NEWM
namespace Go.Proofs.YthanangkmjjbaaaGreatDoor
open Go Go.RowKit
set_option maxRecDepth 100000
theorem fst0_drop {l : List Int} {k : Nat} {n : Int} (h : l[k]? = some n) : fst0 (l.drop k) = if n = 0 then fst0 (l.drop (k + 1)) else n := by
  obtain ⟨h1, h2⟩ := List.getElem?_eq_some_iff.1 h
  rw [List.drop_eq_getElem_cons h1, h2]; rfl
end Go.Proofs.YthanangkmjjbaaaGreatDoor

/- cmp.Or of numbers; the order of sides, by value. -/
-- NEWM
namespace Go.Proofs.YthanangkmjjbaaaGreatDoor
open Go Go.RowKit
set_option maxRecDepth 100000
theorem orI_v (l : List Int) (v : Value) (hl : l.length ≤ 1000000) : ACalls Tryz.prog 89 [.c (.r v (zR l))] [] fun u H => u = .c (I (fst0 l)) ∧ H = [] := by
  have e1 : (zR l).length = l.length := by simp
  refine acalls_of (N := 18) Tryz.func89 rfl rfl (by simp) fun E hE => ?_
  refine WA ?_
  refine WA ?_
  refine WA ?_
  refine aw_loopw (fun m F H => ∃ (k : Nat), m + k = l.length ∧ fst0 (l.drop k) = fst0 l ∧ F = [(3, .c (I 0)), (6, .c (.r v (zR l))), (7, .c (I (zR l).length)), (8, .c (I k))] ∧ H = []) ?_ ?_
  · refine wk_of [] (fun _ => [(3, .c (I 0)), (6, .c (.r v (zR l))), (7, .c (I (zR l).length)), (8, .c (I (0 : Nat)))]) (fun _ => _) (by decide) (ZNL hE) ZCF (fun _ => .nil) (fun _ => ?_)
    exact ⟨l.length, 0, by omega, rfl, rfl, rfl⟩
  rintro m F H ⟨k, hk, hf, rfl, rfl⟩
  refine WA ?_
  refine aw_if rfl (fun hlt => ?_) (fun hge => ?_)
  · obtain ⟨n, hn⟩ : ∃ n, l[k]? = some n := ⟨_, List.getElem?_eq_getElem (by omega)⟩
    have hrow : (zR l)[k]? = some [I n] := by rw [List.getElem?_map, hn]; rfl
    have hd := fst0_drop hn
    refine WA ?_
    refine WA ?_
    refine aw_if rfl (fun hv => ?_) (fun hv => ?_)
    · refine WA ?_
      exact aret_1 [] _ rfl rfl rfl (by decide) (ZNK rfl) (fun _ => .nil) ⟨by rw [← hf, hd, if_neg hv], rfl⟩
    · refine WA ?_
      refine wk_of [] (fun _ => [(3, .c (I 0)), (6, .c (.r v (zR l))), (7, .c (I (zR l).length)), (8, .c (I (k + 1 : Nat)))]) (fun _ => _) (by decide) (ZNL hE) ZCF (fun _ => .nil) (fun _ => ?_)
      exact ⟨m - 1, by omega, k + 1, by omega, by rw [← hf, hd, if_pos (by omega)], rfl, rfl⟩
  refine WA ?_
  exact aret_1 [] _ rfl rfl rfl (by decide) (ZNK rfl) (fun _ => .nil) ⟨by rw [← hf, List.drop_eq_nil_of_le (by omega)]; rfl, rfl⟩
/-- The order of sides. -/
def sidC (a b : Sid2) : Int := fst0 [cmpI a.f b.f, cmpI a.t b.t]
theorem sidC_v (a b : Sid2) : ACalls Tryz.prog 88 [.a (a.row.map .c), .a (b.row.map .c)] [] fun u H => u = .c (I (sidC a b)) ∧ H = [] := by
  obtain ⟨af, at_⟩ := a
  obtain ⟨bf, bt⟩ := b
  refine acalls_of (N := 17) Tryz.func88 rfl rfl (by simp) fun E hE => ?_
  refine WA ?_
  refine ZZ ?_
  refine aw_regionT [(0, none), (1, none), (2, none), (3, none), (5, none), (6, none), (7, none), (8, none), (4, some [5, 6, 7, 8]), (9, some []), (10, some []), (11, some []), (12, none)] hMixed (by kernel_rfl) ?_
  refine WP ?_
  refine at_ef rfl rfl (ef_call0 false (fun _ => cmpI_v _ _) rfl .fn rfl (by decide) (by kernel_rfl) rfl (fun _g => .cons (.c rfl) (.cons (.c rfl) .nil)) (by simp)) ?_
  rintro _ _ ⟨_, _, _, ⟨rfl, rfl⟩, hF, hH⟩
  (try simp only [nsl, Nat.reduceAdd, Nat.reduceLT, Nat.reduceSub] at hF); (try simp only [nsl, Nat.reduceAdd, Nat.reduceLT, Nat.reduceSub] at hH); subst hF; subst hH
  refine ⟨ag_cons (by first | exact ag_rd rfl rfl rfl (ZX (KF (t := 54) (f := 1) rfl rfl)) rfl) (ag_cons (by first | exact ag_rd rfl rfl rfl (ZL (KK (t := 3) rfl)) rfl) (ag_cons (by first | exact ag_rd rfl rfl rfl (ZX (KF (t := 54) (f := 1) rfl rfl)) rfl) (ag_cons (by first | exact ag_rd rfl rfl rfl (ZL (KK (t := 3) rfl)) rfl) (ag_none)))), ?_⟩
  refine at_ef rfl rfl (ef_call0 false (fun _ => cmpI_v _ _) rfl .fn rfl (by decide) (by kernel_rfl) rfl (fun _g => .cons (.c rfl) (.cons (.c rfl) .nil)) (by simp)) ?_
  rintro _ _ ⟨_, _, _, ⟨rfl, rfl⟩, hF, hH⟩
  (try simp only [nsl, Nat.reduceAdd, Nat.reduceLT, Nat.reduceSub] at hF); (try simp only [nsl, Nat.reduceAdd, Nat.reduceLT, Nat.reduceSub] at hH); subst hF; subst hH
  refine ⟨ag_none, ?_⟩
  refine WP ?_
  refine at_ef rfl rfl (ef_call0 true (fun g => orI_v [cmpI af bf, cmpI at_ bt] (g (.o 2 0 2 2)) (by simp)) rfl .fn rfl (by decide) (by kernel_rfl) rfl (fun _ => .cons (.frz rfl rfl rfl rfl rfl) .nil) (fun _ _ _ _ ⟨hu, hH⟩ => by rw [hu, hH]; exact ⟨.c (.inl trivial), by simp⟩)) ?_
  rintro _ _ ⟨_, _, _, ⟨rfl, rfl⟩, hF, hH⟩
  (try simp only [nsl, Nat.reduceAdd, Nat.reduceLT, Nat.reduceSub] at hF); (try simp only [nsl, Nat.reduceAdd, Nat.reduceLT, Nat.reduceSub] at hH); subst hF; subst hH
  refine ⟨ag_none, ?_⟩
  refine WQ ?_
  all_goals exact aret_1 [] _ rfl rfl rfl (by decide) (ZNK rfl) (fun _ => .nil) ⟨rfl, rfl⟩
end Go.Proofs.YthanangkmjjbaaaGreatDoor

/- slices.SortFunc of sides: some order of the same. -/
namespace Go.Proofs.YthanangkmjjbaaaGreatDoor
open Go Go.RowKit
set_option maxRecDepth 100000
def sidOf : List CV → Sid2
  | [.s (.int _ a), .s (.int _ b)] => ⟨a, b⟩
  | _ => ⟨0, 0⟩
theorem sidOf_row (s : Sid2) : sidOf s.row = s := rfl
theorem fst0_two (a b : Int) : fst0 [a, b] = if a = 0 then b else a := by
  simp only [fst0]; split <;> simp_all
theorem sidC_lt (a b : Sid2) : sidC a b < 0 ↔ (a.f < b.f ∨ (a.f = b.f ∧ a.t < b.t)) := by
  unfold sidC
  rw [fst0_two]
  unfold cmpI
  split <;> split <;> omega
theorem sortS_v (l : List Sid2) (c : Nat) (hl : l.length ≤ 1000000) : ACallsX true Tryz.prog 59 [.o 0 0 l.length c, .f (.func 88) []] [.arr 54 2 c (sR l)] fun u H => ∃ l' : List Sid2, l'.Perm l ∧ u = .t [] ∧ H = [.arr 54 2 c (sR l')] := by
  have h := acalls_sort sortSideL (k := 2) (fun w => Tryz.isAgg54 w) (fun w => Tryz.sizeOf54 w) (fun x => ∃ s : Sid2, x = s.row) (fun x y => sidC (sidOf x) (sidOf y)) (g := 88) (by kernel_rfl)
    (by rintro _ ⟨s, rfl⟩; rw [sidC_lt]; omega)
    (by rintro _ _ _ ⟨a, rfl⟩ ⟨b, rfl⟩ ⟨c, rfl⟩; simp only [sidC_lt, sidOf_row]; omega)
    (by rintro _ _ _ ⟨a, rfl⟩ ⟨b, rfl⟩ ⟨c, rfl⟩; simp only [sidC_lt, sidOf_row]; omega)
    (by rintro _ _ ⟨a, rfl⟩ ⟨b, rfl⟩; exact sidC_v a b)
    (sR l) (by intro r hr; obtain ⟨s, _, rfl⟩ := List.mem_map.1 hr; exact ⟨s, rfl⟩) (by simp; omega) (e := 54) (cap := c) (n := l.length) (c := c) (pn := true) (by simp)
  refine ACallsX.mono h fun u H => ?_
  rintro ⟨rows', rfl, rfl, hp, _⟩
  refine ⟨rows'.map sidOf, ?_, rfl, ?_⟩
  · have h2 := hp.map sidOf
    rwa [List.map_map, show (sidOf ∘ Sid2.row) = id from funext fun s => rfl, List.map_id] at h2
  · congr 2
    rw [sR, List.map_map]
    refine (List.map_id _).symm.trans (List.map_congr_left fun r hr => ?_)
    obtain ⟨s, _, rfl⟩ := List.mem_map.1 (hp.subset hr)
    rfl
end Go.Proofs.YthanangkmjjbaaaGreatDoor

/- Open sides of the reference: some list of sides. -/
-- NEWM
namespace Go.Proofs.YthanangkmjjbaaaGreatDoor
open Go Go.RowKit
set_option maxRecDepth 100000
/-- The open sides: those whose other direction is not there. -/
def opnL (Fs : List Fac3) : List Sid2 := (Fs.flatMap sds).filter fun s => !(Fs.flatMap sds).contains ⟨s.t, s.f⟩
set_option maxHeartbeats 2000000 in
theorem openof_v (v w : Value) (V : List Vec3) (Fs : List Fac3) (hFl : Fs.length ≤ 1000) : ACalls Tryz.prog 39 [mshA v w V Fs] [] fun u H => ∃ (q : Value) (l : List Sid2), l.Perm (opnL Fs) ∧ u = .c (.r q (sR l)) ∧ H = [] := by
  have e2 : (fR Fs).length = Fs.length := by simp
  have e2' : (Fs.map Fac3.row).length = Fs.length := by simp
  refine acalls_of (N := 43) Tryz.func39 rfl rfl (by simp) fun E hE => ?_
  refine WA ?_
  refine WA ?_
  refine WA ?_
  refine aw_loopw (fun m F H => ∃ (k c : Nat) (L : List Sid2), m + k = Fs.length ∧ L.length = 3 * k ∧ L = (Fs.take k).flatMap sds ∧ F = [(1, .p 0 0 0), (3, .o 1 0 L.length c), (4, .c (.r (.slice none 0 0) [])), (10, .c (.r w (fR Fs))), (11, .c (I (fR Fs).length)), (12, .c (I k))] ∧ H = [mBox v w V (fR Fs), .arr 54 2 c (sR L)]) ?_ ?_
  · refine wk_of [some 0, none] (fun _ => [(1, .p 0 0 0), (3, .o 1 0 0 0), (4, .c (.r (.slice none 0 0) [])), (10, .c (.r w (fR Fs))), (11, .c (I (fR Fs).length)), (12, .c (I (0 : Nat)))]) (fun _ => [mBox v w V (fR Fs), .arr 54 2 0 []]) (by decide) (ZNL hE) ZCF ZCH (fun _ => ?_)
    exact ⟨Fs.length, 0, 0, [], by omega, rfl, rfl, rfl, rfl⟩
  · rintro m F H ⟨k, c, L, hk, hL, hLe, rfl, rfl⟩
    refine WA ?_
    refine aw_if rfl (fun hlt => ?_) (fun hge => ?_)
    · obtain ⟨f, hz⟩ : ∃ z, Fs[k]? = some z := ⟨_, List.getElem?_eq_getElem (by omega)⟩
      obtain ⟨fa, fb, fc⟩ := f
      have hrow : (fR Fs)[k]? = some [I fa, I fb, I fc] := by rw [List.getElem?_map, hz]; rfl
      have e5 : (sR (sds ⟨fa, fb, fc⟩)).length = 3 := rfl
      have e6 : (sds ⟨fa, fb, fc⟩).length = 3 := rfl
      have hzn := sd_next hz
      rw [← hLe] at hzn
      refine WA ?_
      refine WR ?_
      refine al_ef rfl (ef_call0 false (fun _ => rsides_v ⟨fa, fb, fc⟩) rfl .fn rfl (by decide) (by kernel_rfl) rfl (fun _ => C0 rfl) (by simp)) ?_
      rintro _ _ ⟨_, _, _, ⟨⟨q, rfl⟩, rfl⟩, hF, hH⟩
      (try simp only [nsl, Nat.reduceAdd, Nat.reduceLT, Nat.reduceSub] at hF); (try simp only [nsl, Nat.reduceAdd, Nat.reduceLT, Nat.reduceSub] at hH); subst hF; subst hH
      refine al_ef rfl (Zapp (KA (t := 64) rfl)) ?_
      rintro _ _ ⟨_, cc, hcc, rfl, rfl⟩
      refine WE ?_
      refine WA ?_
      refine wk_of [some 0, some 1] (fun _ => [(1, .p 0 0 0), (3, .o 1 0 (L ++ sds ⟨fa, fb, fc⟩).length cc), (4, .c (.r (.slice none 0 0) [])), (10, .c (.r w (fR Fs))), (11, .c (I (fR Fs).length)), (12, .c (I (k + 1 : Nat)))]) (fun _ => _) (by decide) (ZNL hE) ZCF ZCH (fun _ => ?_)
      exact ⟨m - 1, by omega, k + 1, cc, L ++ sds ⟨fa, fb, fc⟩, by omega, by simp [sds]; omega, hzn.symm, rfl, by simp [sR]⟩
    obtain rfl : k = Fs.length := by omega
    rw [List.take_of_length_le (Nat.le_refl _)] at hLe
    have hop : opnL Fs = L.filter fun s => !L.contains ⟨s.t, s.f⟩ := by rw [opnL, hLe]
    refine ZZ ?_
    refine WA ?_
    refine aw_loopw (fun m F H => ∃ (j c2 : Nat) (O : List Sid2), m + j = L.length ∧ O.length ≤ j ∧ O = ((L.take j).filter fun s => !L.contains ⟨s.t, s.f⟩) ∧ F = [(3, .o 0 0 L.length c), (4, .o 1 0 O.length c2), (21, .o 0 0 L.length c), (22, .c (I L.length)), (23, .c (I j))] ∧ H = [.arr 54 2 c (sR L), .arr 54 2 c2 (sR O)]) ?_ ?_
    · refine wk_of [some 1, none] (fun _ => [(3, .o 0 0 L.length c), (4, .o 1 0 0 0), (21, .o 0 0 L.length c), (22, .c (I L.length)), (23, .c (I (0 : Nat)))]) (fun _ => [.arr 54 2 c (sR L), .arr 54 2 0 []]) (by decide) (ZNL hE) ZCF ZCH (fun _ => ?_)
      exact ⟨L.length, 0, 0, [], by omega, by simp, by simp, rfl, rfl⟩
    rintro m F H ⟨j, c2, O, hj, hO, hOe, rfl, rfl⟩
    have eL : (sR L).length = L.length := by simp
    refine WA ?_
    refine aw_if rfl (fun hlt2 => ?_) (fun hge2 => ?_)
    · obtain ⟨s, hs⟩ : ∃ z, L[j]? = some z := ⟨_, List.getElem?_eq_getElem (by omega)⟩
      obtain ⟨sf, st⟩ := s
      have hrow : (sR L)[j]? = some [I sf, I st] := by rw [List.getElem?_map, hs]; rfl
      have hrow0 : (sR L)[0 + j]? = some [I sf, I st] := by rw [Nat.zero_add]; exact hrow
      refine WA ?_
      refine WR ?_
      refine al_ef rfl (ef_call0 true (fun g => hasS_v ⟨st, sf⟩ L (g (.o 0 0 L.length c)) (by omega)) rfl .fn rfl (by decide) (by kernel_rfl) rfl (fun _ => .cons (.frz rfl rfl (by rw [List.drop_zero, List.take_of_length_le (by simp)]) (by simp) rfl) (.cons (.aL (C0 rfl)) .nil)) (fun _ _ _ _ ⟨hu, hH⟩ => by rw [hu, hH]; exact ⟨.c (.inl trivial), by simp⟩)) ?_
      rintro _ _ ⟨_, _, _, ⟨rfl, rfl⟩, hF, hH⟩
      (try simp only [nsl, Nat.reduceAdd, Nat.reduceLT, Nat.reduceSub] at hF); (try simp only [nsl, Nat.reduceAdd, Nat.reduceLT, Nat.reduceSub] at hH); subst hF; subst hH
      refine WE ?_
      refine aw_cond rfl (fun hb => ?_) (fun hb => ?_)
      · have hOn : (O ++ [(⟨sf, st⟩ : Sid2)]) = ((L.take (j + 1)).filter fun s => !L.contains ⟨s.t, s.f⟩) := by
          rw [List.take_add_one, hs, List.filter_append, ← hOe]
          simp only [Bool.not_eq_true'] at hb
          simp only [Option.toList_some, List.filter_cons, List.filter_nil, hb, Bool.not_false, if_true]
        refine WR ?_
        refine al_ef rfl (Zapp (KA (t := 64) rfl)) ?_
        rintro _ _ ⟨_, cc, hcc, rfl, rfl⟩
        refine WE ?_
        refine WA ?_
        refine wk_of [some 0, some 1] (fun _ => [(3, .o 0 0 L.length c), (4, .o 1 0 (O ++ [(⟨sf, st⟩ : Sid2)]).length cc), (21, .o 0 0 L.length c), (22, .c (I L.length)), (23, .c (I (j + 1 : Nat)))]) (fun _ => _) (by decide) (ZNL hE) ZCF ZCH (fun _ => ?_)
        exact ⟨m - 1, by omega, j + 1, cc, O ++ [⟨sf, st⟩], by omega, by simp; omega, hOn, rfl, by simp [sR]⟩
      · have hOn : O = ((L.take (j + 1)).filter fun s => !L.contains ⟨s.t, s.f⟩) := by
          rw [List.take_add_one, hs, List.filter_append, ← hOe]
          simp only [Bool.not_eq_true', Bool.not_eq_false'] at hb
          simp only [Option.toList_some, List.filter_cons, List.filter_nil, hb, Bool.not_true, Bool.false_eq_true, if_false, List.append_nil]
        refine ZZ ?_
        refine WA ?_
        refine wk_of [some 0, some 1] (fun _ => [(3, .o 0 0 L.length c), (4, .o 1 0 O.length c2), (21, .o 0 0 L.length c), (22, .c (I L.length)), (23, .c (I (j + 1 : Nat)))]) (fun _ => _) (by decide) (ZNL hE) ZCF ZCH (fun _ => ?_)
        exact ⟨m - 1, by omega, j + 1, c2, O, by omega, by omega, hOn, rfl, rfl⟩
    rw [List.take_of_length_le (by omega)] at hOe
    refine ZZ ?_
    refine WR ?_
    refine al_ef rfl (ef_callp [1] (fun _ => [.arr 54 2 c2 (sR O)]) false (fun _ => sortS_v O c2 (by omega)) rfl .fn rfl (by decide) (by kernel_rfl) rfl ZCH (by decide) (fun _ => .arr rfl rfl .nil) (by simp)) ?_
    rintro F1 H1 ⟨_, _, _, _, ⟨l', hp, rfl, rfl⟩, hF, hH⟩
    rw [killF_nil] at hF; (try simp only [List.set_cons_zero, List.set_cons_succ, updH, posOf, lentArr, killF, killO, killV, AV.has, AV.hasL, AV.emb, AV.embL, OB.emb, embB, List.filter_cons, List.filter_nil, List.getElem?_cons_zero, List.getElem?_cons_succ, List.getD_cons_zero, List.getD_cons_succ, List.drop_succ_cons, List.drop_zero, List.drop_nil, List.contains_cons, List.contains_nil, Nat.reduceBEq, Nat.reduceEqDiff, beq_self_eq_true, Bool.or_false, Bool.false_or, Bool.or_true, Bool.true_or, Bool.false_eq_true, Option.map_some, Option.map_none, List.map_cons, List.map_nil, List.cons_append, List.nil_append, List.append_nil, List.length_cons, List.length_nil, Nat.reduceAdd, Nat.reduceLT, Nat.reduceSub, if_true, if_false, Nat.zero_add, Nat.add_zero, Nat.sub_zero, Nat.lt_irrefl, Nat.not_lt_zero, Nat.zero_lt_one, Nat.lt_add_one] at hF); (try simp only [List.set_cons_zero, List.set_cons_succ, updH, posOf, lentArr, killF, killO, killV, AV.has, AV.hasL, AV.emb, AV.embL, OB.emb, embB, List.filter_cons, List.filter_nil, List.getElem?_cons_zero, List.getElem?_cons_succ, List.getD_cons_zero, List.getD_cons_succ, List.drop_succ_cons, List.drop_zero, List.drop_nil, List.contains_cons, List.contains_nil, Nat.reduceBEq, Nat.reduceEqDiff, beq_self_eq_true, Bool.or_false, Bool.false_or, Bool.or_true, Bool.true_or, Bool.false_eq_true, Option.map_some, Option.map_none, List.map_cons, List.map_nil, List.cons_append, List.nil_append, List.append_nil, List.length_cons, List.length_nil, Nat.reduceAdd, Nat.reduceLT, Nat.reduceSub, if_true, if_false, Nat.zero_add, Nat.add_zero, Nat.sub_zero, Nat.lt_irrefl, Nat.not_lt_zero, Nat.zero_lt_one, Nat.lt_add_one] at hH); subst hF; subst hH
    refine WE ?_
    have hpl := hp.length_eq
    refine WA ?_
    exact aret_f1 [] _ rfl rfl rfl rfl (by rw [List.drop_zero, List.take_of_length_le (by simp; omega)]) (by simp; omega) rfl (by decide) (ZNK rfl) (fun _ => .nil) (fun q => ⟨q, l', by rw [hop, ← hOe]; exact hp, rfl, rfl⟩)
end Go.Proofs.YthanangkmjjbaaaGreatDoor

/- Closed meshes of the stream, by value. -/
-- NEWM
namespace Go.Proofs.YthanangkmjjbaaaGreatDoor
open Go Go.RowKit
set_option maxRecDepth 100000
set_option maxHeartbeats 8000000 in
theorem closedmesh_v (v : Value) (zs : List Int) (a : Int) (hs : StrOk zs) (h0 : 0 ≤ a) (h1 : a ≤ 500000000) :
    ACalls Tryz.prog 9 [.p 0 0 0] [strm v zs a] fun u H => ∃ (a' : Int) (q w : Value) (V : List Vec3) (Fs : List Fac3), u = mshA q w V Fs ∧ H = [strm v zs a'] ∧ a ≤ a' ∧ a' ≤ a + 12800 ∧ V.length ≤ 16 ∧ Fs.length ≤ 25 ∧ mshF V Fs = 0 ∧ opnL Fs = [] := by
  refine acalls_of (N := 16) Tryz.func9 rfl rfl (by simp) fun E hE => ?_
  refine WA ?_
  refine WA ?_
  refine aw_loopw (fun m F H => ∃ (k : Nat) (a1 : Int), m + k = 8 ∧ a ≤ a1 ∧ a1 ≤ a + 1600 * k ∧ F = [(0, .p 0 0 0), (2, .p 1 0 0), (4, .c (I k))] ∧ H = [strm v zs a1, .box [.c (.r (.slice none 0 0) []), .c (.r (.slice none 0 0) [])]]) ?_ ?_
  · refine wk_of [some 0, some 1] (fun _ => [(0, .p 0 0 0), (2, .p 1 0 0), (4, .c (I (0 : Nat)))]) (fun _ => [strm v zs a, .box [.c (.r (.slice none 0 0) []), .c (.r (.slice none 0 0) [])]]) (by decide) (ZNL hE) ZCF ZCH (fun _ => ?_)
    exact ⟨8, 0, a, by omega, by omega, by omega, rfl, rfl⟩
  rintro m F H ⟨k, a1, hk, ha1, ha2, rfl, rfl⟩
  refine WA ?_
  refine aw_if rfl (fun hlt => ?_) (fun hge => ?_)
  · refine WR ?_
    refine al_ef rfl (ef_callm false (fun _ => rightmesh_v _ _ _ hs (by omega) (by omega)) rfl .fn rfl (by decide) (by kernel_rfl) rfl rfl (fun _g => .cons (.p rfl) .nil) (fun _g => .cons (.c rfl) (.cons (.c rfl) .nil)) (by simp)) ?_
    rintro F1 H1 ⟨_, _, _, _, ⟨a2, q, w, V, Fs, rfl, hq, ha3, ha4, hV, hFl, hmf⟩, hF, hH⟩
    injection hq with hq1 hq2; subst hq1; subst hq2
    (try simp only [nsl, Nat.reduceAdd, Nat.reduceLT, Nat.reduceSub] at hF); (try simp only [nsl, Nat.reduceAdd, Nat.reduceLT, Nat.reduceSub] at hH); subst hF; subst hH
    refine WE ?_
    refine WR ?_
    refine al_ef rfl (ef_call0 false (fun _ => openof_v q w V Fs (by omega)) rfl .fn rfl (by decide) (by kernel_rfl) rfl (fun _ => C0 rfl) (by simp)) ?_
    rintro _ _ ⟨_, _, _, ⟨qo, lo, hlo, rfl, rfl⟩, hF, hH⟩
    (try simp only [nsl, Nat.reduceAdd, Nat.reduceLT, Nat.reduceSub] at hF); (try simp only [nsl, Nat.reduceAdd, Nat.reduceLT, Nat.reduceSub] at hH); subst hF; subst hH
    refine WE ?_
    refine aw_if rfl (fun hok => ?_) (fun hok => ?_)
    · have hop : opnL Fs = [] := by
        have h3 : lo.length = 0 := by simp at hok; simp [hok]
        rw [List.eq_nil_of_length_eq_zero h3] at hlo
        exact hlo.symm.eq_nil
      refine WA ?_
      exact aret_a [some 0] [strm v zs a2] rfl (KK (t := 29) rfl) rfl (Cells.box rfl) (by simp) (by (try simp only [nm, putL, Nat.reduceAdd, cellsOf, cvOf]) <;> rfl) (by decide) (ZNK rfl) (fun _ => C0 rfl) ZCH ⟨_, q, w, V, Fs, rfl, rfl, by omega, by omega, hV, hFl, hmf, hop⟩
    · refine ZZ ?_
      refine WA ?_
      refine wk_of [some 0, some 1] (fun _ => [(0, .p 0 0 0), (2, .p 1 0 0), (4, .c (I (k + 1 : Nat)))]) (fun _ => [strm v zs a2, .box [.c (.r (.slice none 0 0) []), .c (.r (.slice none 0 0) [])]]) (by decide) (ZNL hE) ZCF ZCH (fun _ => ?_)
      exact ⟨m - 1, by omega, k + 1, a2, by omega, by omega, by omega, rfl, rfl⟩
  refine ZZ ?_
  refine WR ?_
  refine al_ef rfl (ef_call [] (fun _ => []) false (fun _ => tetra_v ⟨0, 0, 0⟩ 6 (by decide) (by decide)) rfl .fn rfl (by decide) (by kernel_rfl) rfl (fun _ => C0 rfl) (by decide) (fun _ => .nil) (by simp)) ?_
  rintro F1 H1 ⟨_, _, _, _, ⟨rfl, rfl⟩, hF, hH⟩
  (try simp only [List.set_cons_zero, List.set_cons_succ, updH, posOf, lentArr, killF, killO, killV, AV.has, AV.hasL, AV.emb, AV.embL, OB.emb, embB, List.filter_cons, List.filter_nil, List.getElem?_cons_zero, List.getElem?_cons_succ, List.getD_cons_zero, List.getD_cons_succ, List.drop_succ_cons, List.drop_zero, List.drop_nil, List.contains_cons, List.contains_nil, Nat.reduceBEq, Nat.reduceEqDiff, beq_self_eq_true, Bool.or_false, Bool.false_or, Bool.or_true, Bool.true_or, Bool.false_eq_true, Option.map_some, Option.map_none, List.map_cons, List.map_nil, List.cons_append, List.nil_append, List.append_nil, List.length_cons, List.length_nil, Nat.reduceAdd, Nat.reduceLT, Nat.reduceSub, if_true, if_false, Nat.zero_add, Nat.add_zero, Nat.sub_zero, Nat.lt_irrefl, Nat.not_lt_zero, Nat.zero_lt_one, Nat.lt_add_one] at hF); (try simp only [List.set_cons_zero, List.set_cons_succ, updH, posOf, lentArr, killF, killO, killV, AV.has, AV.hasL, AV.emb, AV.embL, OB.emb, embB, List.filter_cons, List.filter_nil, List.getElem?_cons_zero, List.getElem?_cons_succ, List.getD_cons_zero, List.getD_cons_succ, List.drop_succ_cons, List.drop_zero, List.drop_nil, List.contains_cons, List.contains_nil, Nat.reduceBEq, Nat.reduceEqDiff, beq_self_eq_true, Bool.or_false, Bool.false_or, Bool.or_true, Bool.true_or, Bool.false_eq_true, Option.map_some, Option.map_none, List.map_cons, List.map_nil, List.cons_append, List.nil_append, List.append_nil, List.length_cons, List.length_nil, Nat.reduceAdd, Nat.reduceLT, Nat.reduceSub, if_true, if_false, Nat.zero_add, Nat.add_zero, Nat.sub_zero, Nat.lt_irrefl, Nat.not_lt_zero, Nat.zero_lt_one, Nat.lt_add_one] at hH); subst hF; subst hH
  refine WE ?_
  exact aret_of (us := [.a [.o 2 0 (tetV ⟨0, 0, 0⟩ 6).length 4, .o 3 0 (tetF).length 4]]) [some 0] (fun g => .a [.c (.r (g (.o 2 0 (tetV ⟨0, 0, 0⟩ 6).length 4)) (vR (tetV ⟨0, 0, 0⟩ 6))), .c (.r (g (.o 3 0 (tetF).length 4)) (fR (tetF)))]) (fun _ => [strm v zs a1]) (.cella rfl (KK (t := 29) rfl) (Cells.box rfl) (by simp) (by (try simp only [nm, putL, Nat.reduceAdd, cellsOf, cvOf]) <;> rfl) .nil) (by decide) (ZNK rfl) (fun _ => .aL (.cons (.frz rfl rfl (by rw [List.drop_zero, List.take_of_length_le (by simp)]) (by simp) rfl) (.cons (.frz rfl rfl (by rw [List.drop_zero, List.take_of_length_le (by simp)]) (by simp) rfl) .nil))) ZCH (fun _ => ⟨_, _, _, tetV ⟨0, 0, 0⟩ 6, tetF, rfl, rfl, by omega, by omega, by decide, by decide, by decide, by decide⟩)
end Go.Proofs.YthanangkmjjbaaaGreatDoor
