/- Solid cells, by value. -/
import Derived.Test.YtniolldgidgffaaGreatDoorQbd
set_option linter.unusedSimpArgs false
set_option linter.unusedVariables false
/- Solid cells, by value: the closure. -/
-- NEWM
namespace Go.Proofs.YtniolldgidgffaaGreatDoor
open Go Go.RowKit
set_option maxRecDepth 100000
def okL (Ls : List (List Spot)) (q : Spot) (k : Int) : Bool := decide (0 ≤ k) && decide (q ∈ Ls.getD k.toNat [])
abbrev nearL (Ls : List (List Spot)) (ly tp bo : Int) (q : Spot) : Bool := allU (okL Ls q) (tp + bo + 1).toNat (ly - bo)
set_option maxHeartbeats 2000000 in
theorem solid1_v (w : Value) (gs : List (Value × Value × Grd)) (Ls : List (List Spot)) (ly tp bo : Int) (hly : 0 ≤ ly ∧ ly < 100) (htp : 0 ≤ tp ∧ tp ≤ 50) (hbo : 0 ≤ bo ∧ bo ≤ 50) (hgs : gs.length ≤ 100) (hLs : Ls.length = gs.length) (hat : ∀ (k : Nat) p, gs[k]? = some p → GOk p.2.2 ∧ ∀ a b, atG p.2.2 a b = decide ((a, b) ∈ Ls.getD k [])) (g : Grd) (hg : GOk g) (on : List Bool) (j : Nat) (hj : j < g.on.length) (hon : on.length = g.w * g.h) (a b : Int) (ha : a = g.x + (j : Int) % g.w) (hbb : b = g.y + (j : Int) / g.w) : ACalls Tryz.prog 187 [.c (I a), .c (I b), .p 0 0 0, .p 1 0 0, .p 2 0 0, .p 3 0 0, .p 4 0 0] [.box [.c (I ly)], .box [.c (I bo)], .box [.c (I tp)], .box [.c (.r w (gR gs))], .box [.p 5 0 0], gB g.st g.x g.y g.w g.h 6 (g.w * g.h), gArr (g.w * g.h) (on)] fun u H => u = .t [] ∧ H = [.box [.c (I ly)], .box [.c (I bo)], .box [.c (I tp)], .box [.c (.r w (gR gs))], .box [.p 5 0 0], gB g.st g.x g.y g.w g.h 6 (g.w * g.h), gArr (g.w * g.h) (if nearL Ls ly tp bo (a, b) = true then on else on.set j true)] := by
 obtain ⟨w1, ⟨w2, w3⟩, w4, w5⟩ := each_at hg hj
 have e1 : (gR gs).length = gs.length := by simp
 have hgx := hg.x
 have hgy := hg.y
 have hi := spt_ix w1 ha hbb
 have hnb : g.w * g.h ≤ 1000000 := Nat.le_trans (Nat.mul_le_mul hg.w hg.h) (by decide)
 have hjn : j < g.w * g.h := by rw [← hg.len]; exact hj
 have hab : -100000000 ≤ a ∧ a ≤ 100000000 := by omega
 have hb : -100000000 ≤ b ∧ b ≤ 100000000 := by omega
 clear ha hbb w1 w2 w3 w4 w5
 have hPP : nearL Ls ly tp bo (a, b) = allU (okL Ls (a, b)) (tp + bo + 1).toNat (ly - bo) := rfl
 generalize nearL Ls ly tp bo (a, b) = P at *
 refine acallsx_of false (N := 42) Tryz.func187 rfl rfl (by simp) fun E hE hP => ?_
 refine WA ?_
 refine aw_loopw (fun m F H => ∃ k : Int, k + m = ly + tp + 1 ∧ ly - bo ≤ k ∧ allU (okL Ls (a, b)) m k = P ∧ F = [(0, .c (I a)), (1, .c (I b)), (2, .p 0 0 0), (3, .p 1 0 0), (4, .p 2 0 0), (5, .p 3 0 0), (6, .p 4 0 0), (9, .c (I (k)))] ∧ H = [.box [.c (I ly)], .box [.c (I bo)], .box [.c (I tp)], .box [.c (.r w (gR gs))], .box [.p 5 0 0], gB g.st g.x g.y g.w g.h 6 (g.w * g.h), gArr (g.w * g.h) (on)]) ?_ ?_
 ·refine wk_of [some 0, some 1, some 2, some 3, some 4, some 5, some 6] (fun _ => [(0, .c (I a)), (1, .c (I b)), (2, .p 0 0 0), (3, .p 1 0 0), (4, .p 2 0 0), (5, .p 3 0 0), (6, .p 4 0 0), (9, .c (I (ly - bo)))]) (fun _ => [.box [.c (I ly)], .box [.c (I bo)], .box [.c (I tp)], .box [.c (.r w (gR gs))], .box [.p 5 0 0], gB g.st g.x g.y g.w g.h 6 (g.w * g.h), gArr (g.w * g.h) (on)]) (by decide) (ZNL hE) ZCF ZCH (fun _ => ?_)
  exact ⟨(tp + bo + 1).toNat, ly - bo, by omega, by omega, hPP.symm, rfl, rfl⟩
 rintro m F H ⟨k, hk, hkn, hal, rfl, rfl⟩
 refine WA ?_
 refine aw_if rfl (fun hlt => ?_) (fun hge => ?_)
 ·obtain ⟨m, rfl⟩ : ∃ m', m = m' + 1 := ⟨m - 1, by omega⟩
  rw [allU] at hal
  by_cases hk0 : k < 0
  ·have hz : okL Ls (a, b) k = false := by rw [okL, decide_eq_false (by omega)]; rfl
   rw [hz] at hal
   obtain rfl : P = false := by simpa using hal.symm
   refine WR ?_
   first | refine ZS ?_ | (refine G1 rfl ?_; refine al_ef rfl (ef_call0 false (fun _ => at_v gk ok pk a b hgk hab hb) rfl .fn rfl (by decide) (by kernel_rfl) rfl (fun _ => C0 rfl) (by simp)) ?_; rintro _ _ ⟨_, _, _, ⟨rfl, rfl⟩, hF, hH⟩; rw [hatk, hq] at hF; (refine NST hF hH ?_; clear hF hH; rintro rfl rfl)) | skip
   refine WE ?_
   refine aw_cond_t rfl ?_
   refine WR ?_
   refine al_ef rfl (ef_callp [5, 6] (fun _ => [gB g.st g.x g.y g.w g.h 1 (g.w * g.h), gArr (g.w * g.h) on]) false (fun _ => set_v g.st g.x g.y g.w g.h on (g.w * g.h) a b j hon hi (by omega) hnb (by omega) (by omega) hgx hgy) rfl .fn rfl (by decide) (by kernel_rfl) rfl (fun _ => .cons (.p rfl) (.cons (.c rfl) (.cons (.c rfl) .nil))) (by decide) ZCH (by simp)) ?_
   rintro F1 H1 ⟨_, _, _, _, ⟨rfl, rfl⟩, hF, hH⟩
   rw [killF_nil] at hF; (refine NSU hF hH ?_; clear hF hH; rintro rfl rfl)
   refine WE ?_
   exact aret_0 [some 0, some 1, some 2, some 3, some 4, some 5, some 6] (fun _ => [.box [.c (I ly)], .box [.c (I bo)], .box [.c (I tp)], .box [.c (.r w (gR gs))], .box [.p 5 0 0], gB g.st g.x g.y g.w g.h 6 (g.w * g.h), gArr (g.w * g.h) (on.set j true)]) (.inl rfl) rfl (by decide) (ZNK rfl) ZCH (fun _ => ⟨rfl, rfl⟩)
  obtain ⟨i, rfl⟩ : ∃ i : Nat, k = i := ⟨k.toNat, by omega⟩
  have hok0 : okL Ls (a, b) (i : Int) = decide ((a, b) ∈ Ls.getD i []) := by rw [okL, decide_eq_true (by omega)]; simp
  by_cases hkl : gs.length ≤ i
  ·have hz : okL Ls (a, b) (i : Int) = false := by rw [hok0, List.getD_eq_getElem?_getD, List.getElem?_eq_none (by omega)]; simp
   rw [hz] at hal
   obtain rfl : P = false := by simpa using hal.symm
   refine WR ?_
   first | refine ZS ?_ | (refine G1 rfl ?_; refine al_ef rfl (ef_call0 false (fun _ => at_v gk ok pk a b hgk hab hb) rfl .fn rfl (by decide) (by kernel_rfl) rfl (fun _ => C0 rfl) (by simp)) ?_; rintro _ _ ⟨_, _, _, ⟨rfl, rfl⟩, hF, hH⟩; rw [hatk, hq] at hF; (refine NST hF hH ?_; clear hF hH; rintro rfl rfl)) | skip
   refine WE ?_
   refine aw_cond_t rfl ?_
   refine WR ?_
   refine al_ef rfl (ef_callp [5, 6] (fun _ => [gB g.st g.x g.y g.w g.h 1 (g.w * g.h), gArr (g.w * g.h) on]) false (fun _ => set_v g.st g.x g.y g.w g.h on (g.w * g.h) a b j hon hi (by omega) hnb (by omega) (by omega) hgx hgy) rfl .fn rfl (by decide) (by kernel_rfl) rfl (fun _ => .cons (.p rfl) (.cons (.c rfl) (.cons (.c rfl) .nil))) (by decide) ZCH (by simp)) ?_
   rintro F1 H1 ⟨_, _, _, _, ⟨rfl, rfl⟩, hF, hH⟩
   rw [killF_nil] at hF; (refine NSU hF hH ?_; clear hF hH; rintro rfl rfl)
   refine WE ?_
   exact aret_0 [some 0, some 1, some 2, some 3, some 4, some 5, some 6] (fun _ => [.box [.c (I ly)], .box [.c (I bo)], .box [.c (I tp)], .box [.c (.r w (gR gs))], .box [.p 5 0 0], gB g.st g.x g.y g.w g.h 6 (g.w * g.h), gArr (g.w * g.h) (on.set j true)]) (.inl rfl) rfl (by decide) (ZNK rfl) ZCH (fun _ => ⟨rfl, rfl⟩)
  obtain ⟨⟨ok, pk, gk⟩, hz⟩ : ∃ e, gs[i]? = some e := ⟨_, List.getElem?_eq_getElem (by omega)⟩
  have hrow : (gR gs)[i]? = some [.p ok (gRow gk pk)] := by rw [List.getElem?_map, hz]; rfl
  obtain ⟨hgk, hatk⟩ := hat i _ hz
  obtain ⟨q, hq⟩ : ∃ q, decide ((a, b) ∈ Ls.getD i []) = q := ⟨_, rfl⟩
  rw [hok0, hq] at hal
  cases q with
  | true =>
   refine WR ?_
   first | refine ZS ?_ | (refine G1 rfl ?_; refine al_ef rfl (ef_call0 false (fun _ => at_v gk ok pk a b hgk hab hb) rfl .fn rfl (by decide) (by kernel_rfl) rfl (fun _ => C0 rfl) (by simp)) ?_; rintro _ _ ⟨_, _, _, ⟨rfl, rfl⟩, hF, hH⟩; rw [hatk, hq] at hF; (refine NST hF hH ?_; clear hF hH; rintro rfl rfl)) | skip
   refine WE ?_
   refine aw_cond_f rfl ?_
   refine ZZ ?_
   refine WA ?_
   refine wk_of [some 0, some 1, some 2, some 3, some 4, some 5, some 6] (fun _ => [(0, .c (I a)), (1, .c (I b)), (2, .p 0 0 0), (3, .p 1 0 0), (4, .p 2 0 0), (5, .p 3 0 0), (6, .p 4 0 0), (9, .c (I ((i : Int) + 1)))]) (fun _ => [.box [.c (I ly)], .box [.c (I bo)], .box [.c (I tp)], .box [.c (.r w (gR gs))], .box [.p 5 0 0], gB g.st g.x g.y g.w g.h 6 (g.w * g.h), gArr (g.w * g.h) (on)]) (by decide) (ZNL hE) ZCF ZCH (fun _ => ?_)
   exact ⟨m, by omega, i + 1, by omega, by omega, by simpa using hal, rfl, rfl⟩
  | false =>
   obtain rfl : P = false := by simpa using hal.symm
   refine WR ?_
   first | refine ZS ?_ | (refine G1 rfl ?_; refine al_ef rfl (ef_call0 false (fun _ => at_v gk ok pk a b hgk hab hb) rfl .fn rfl (by decide) (by kernel_rfl) rfl (fun _ => C0 rfl) (by simp)) ?_; rintro _ _ ⟨_, _, _, ⟨rfl, rfl⟩, hF, hH⟩; rw [hatk, hq] at hF; (refine NST hF hH ?_; clear hF hH; rintro rfl rfl)) | skip
   refine WE ?_
   refine aw_cond_t rfl ?_
   refine WR ?_
   refine al_ef rfl (ef_callp [5, 6] (fun _ => [gB g.st g.x g.y g.w g.h 1 (g.w * g.h), gArr (g.w * g.h) on]) false (fun _ => set_v g.st g.x g.y g.w g.h on (g.w * g.h) a b j hon hi (by omega) hnb (by omega) (by omega) hgx hgy) rfl .fn rfl (by decide) (by kernel_rfl) rfl (fun _ => .cons (.p rfl) (.cons (.c rfl) (.cons (.c rfl) .nil))) (by decide) ZCH (by simp)) ?_
   rintro F1 H1 ⟨_, _, _, _, ⟨rfl, rfl⟩, hF, hH⟩
   rw [killF_nil] at hF; (refine NSU hF hH ?_; clear hF hH; rintro rfl rfl)
   refine WE ?_
   exact aret_0 [some 0, some 1, some 2, some 3, some 4, some 5, some 6] (fun _ => [.box [.c (I ly)], .box [.c (I bo)], .box [.c (I tp)], .box [.c (.r w (gR gs))], .box [.p 5 0 0], gB g.st g.x g.y g.w g.h 6 (g.w * g.h), gArr (g.w * g.h) (on.set j true)]) (.inl rfl) rfl (by decide) (ZNK rfl) ZCH (fun _ => ⟨rfl, rfl⟩)
 obtain rfl : m = 0 := by omega
 obtain rfl : P = true := hal.symm
 refine ZZ ?_
 exact aret_0 [some 0, some 1, some 2, some 3, some 4, some 5, some 6] (fun _ => [.box [.c (I ly)], .box [.c (I bo)], .box [.c (I tp)], .box [.c (.r w (gR gs))], .box [.p 5 0 0], gB g.st g.x g.y g.w g.h 6 (g.w * g.h), gArr (g.w * g.h) (on)]) (.inr rfl) rfl (by decide) (ZNK rfl) ZCH (fun _ => ⟨rfl, rfl⟩)
end Go.Proofs.YtniolldgidgffaaGreatDoor

/- Solid cells, by value. -/
-- NEWM
namespace Go.Proofs.YtniolldgidgffaaGreatDoor
open Go Go.RowKit
set_option maxRecDepth 100000
set_option maxHeartbeats 1000000 in
theorem each_solid (g : Grd) (pv v : Value) (w : Value) (gs : List (Value × Value × Grd)) (Ls : List (List Spot)) (ly tp bo : Int) (hly : 0 ≤ ly ∧ ly < 100) (htp : 0 ≤ tp ∧ tp ≤ 50) (hbo : 0 ≤ bo ∧ bo ≤ 50) (hgs : gs.length ≤ 100) (hLs : Ls.length = gs.length) (hat : ∀ (k : Nat) p, gs[k]? = some p → GOk p.2.2 ∧ ∀ a b, atG p.2.2 a b = decide ((a, b) ∈ Ls.getD k [])) (hg : GOk g)  : ACalls Tryz.prog 95 [gV pv v g, .f (.func 187) [.p 0 0 0, .p 1 0 0, .p 2 0 0, .p 3 0 0, .p 4 0 0]] [.box [.c (I ly)], .box [.c (I bo)], .box [.c (I tp)], .box [.c (.r w (gR gs))], .box [.p 5 0 0], gB g.st g.x g.y g.w g.h 6 (g.w * g.h), gArr (g.w * g.h) (filK g (fun q => !nearL Ls ly tp bo q) 0)] fun u H => u = .t [] ∧ H = [.box [.c (I ly)], .box [.c (I bo)], .box [.c (I tp)], .box [.c (.r w (gR gs))], .box [.p 5 0 0], gB g.st g.x g.y g.w g.h 6 (g.w * g.h), gArr (g.w * g.h) ((filG g (fun q => !nearL Ls ly tp bo q)).on)] := by
 have hn := hg.n
 have hgx := hg.x
 have hgy := hg.y
 have eo : (oR g.on).length = g.on.length := by simp
 refine acallsx_of false (N := 42) Tryz.func95 rfl rfl (by simp) fun E hE hP => ?_
 refine WA ?_
 refine aw_loopw (fun m F H => ∃ k : Nat, m + k = g.on.length ∧ F = [(0, gV pv v g), (1, .f (.func 187) [.p 0 0 0, .p 1 0 0, .p 2 0 0, .p 3 0 0, .p 4 0 0]), (9, .c (.r v (oR g.on))), (10, .c (I (oR g.on).length)), (11, .c (I k))] ∧ H = [.box [.c (I ly)], .box [.c (I bo)], .box [.c (I tp)], .box [.c (.r w (gR gs))], .box [.p 5 0 0], gB g.st g.x g.y g.w g.h 6 (g.w * g.h), gArr (g.w * g.h) (filK g (fun q => !nearL Ls ly tp bo q) k)]) ?_ ?_
 ·refine wk_of [some 0, some 1, some 2, some 3, some 4, some 5, some 6] (fun _ => [(0, gV pv v g), (1, .f (.func 187) [.p 0 0 0, .p 1 0 0, .p 2 0 0, .p 3 0 0, .p 4 0 0]), (9, .c (.r v (oR g.on))), (10, .c (I (oR g.on).length)), (11, .c (I (0 : Nat)))]) (fun _ => [.box [.c (I ly)], .box [.c (I bo)], .box [.c (I tp)], .box [.c (.r w (gR gs))], .box [.p 5 0 0], gB g.st g.x g.y g.w g.h 6 (g.w * g.h), gArr (g.w * g.h) (filK g (fun q => !nearL Ls ly tp bo q) 0)]) (by decide) (ZNL hE) ZCF ZCH (fun _ => ?_)
  exact ⟨g.on.length, 0, by omega, rfl, rfl⟩
 rintro m F H ⟨k, hk, rfl, rfl⟩
 refine WA ?_
 refine aw_if rfl (fun hlt => ?_) (fun hge => ?_)
 ·have hkn : k < g.on.length := by omega
  obtain ⟨b, hb⟩ : ∃ b, g.on[k]? = some b := ⟨_, List.getElem?_eq_getElem hkn⟩
  have hrow : (oR g.on)[k]? = some [B b] := by rw [List.getElem?_map, hb]; rfl
  obtain ⟨w1, ⟨w2, w3⟩, w4, w5⟩ := each_at hg hkn
  refine WA ?_
  refine WA ?_
  cases b with
  | true =>
   refine aw_cond_t rfl ?_
   have hnx : filK g (fun q => !nearL Ls ly tp bo q) (k + 1) = if nearL Ls ly tp bo (spt g k) = true then filK g (fun q => !nearL Ls ly tp bo q) k else (filK g (fun q => !nearL Ls ly tp bo q) k).set k true := by rw [filK_next hb, Bool.true_and]; cases nearL Ls ly tp bo (spt g k) <;> rfl
   refine ZZ ?_
   refine aw_regionT [(0, none), (1, none), (2, none), (3, none), (4, none), (5, none), (6, none), (7, none), (8, none), (9, none), (10, none), (11, none), (12, none), (13, none), (14, none), (15, none), (16, none), (17, none), (18, none), (19, none), (20, none), (21, none), (22, none), (23, some [])] hMixed (by kernel_rfl) ?_
   refine WP ?_
   refine at_ef rfl rfl (ef_call [0, 1, 2, 3, 4, 5, 6] (fun _ => [.box [.c (I ly)], .box [.c (I bo)], .box [.c (I tp)], .box [.c (.r w (gR gs))], .box [.p 5 0 0], gB g.st g.x g.y g.w g.h 6 (g.w * g.h), gArr (g.w * g.h) (filK g (fun q => !nearL Ls ly tp bo q) k)]) false (fun _ => solid1_v w gs Ls ly tp bo hly htp hbo hgs hLs hat g hg (filK g (fun q => !nearL Ls ly tp bo q) k) k hkn (by rw [filK_len (by omega)]; exact hg.len) _ _ rfl rfl) rfl (.clo rfl) rfl (by decide) (by kernel_rfl) rfl ZCH (by decide) ZCH (by simp)) ?_
   rintro F1 H1 ⟨_, _, _, _, ⟨rfl, rfl⟩, hF, hH⟩
   rw [spt_eq, ← hnx] at hH
   (refine NSU hF hH ?_; clear hF hH; rintro rfl rfl)
   refine ⟨ag_none, ?_⟩
   refine WQ ?_
   refine WA ?_
   refine wk_of [some 0, some 1, some 2, some 3, some 4, some 5, some 6] (fun _ => [(0, gV pv v g), (1, .f (.func 187) [.p 0 0 0, .p 1 0 0, .p 2 0 0, .p 3 0 0, .p 4 0 0]), (9, .c (.r v (oR g.on))), (10, .c (I (oR g.on).length)), (11, .c (I (k + 1 : Nat)))]) (fun _ => [.box [.c (I ly)], .box [.c (I bo)], .box [.c (I tp)], .box [.c (.r w (gR gs))], .box [.p 5 0 0], gB g.st g.x g.y g.w g.h 6 (g.w * g.h), gArr (g.w * g.h) (filK g (fun q => !nearL Ls ly tp bo q) (k + 1))]) (by decide) (ZNL hE) ZCF ZCH (fun _ => ?_)
   exact ⟨m - 1, by omega, k + 1, by omega, rfl, rfl⟩
  | false =>
   refine aw_cond_f rfl ?_
   refine ZZ ?_
   refine WA ?_
   refine wk_of [some 0, some 1, some 2, some 3, some 4, some 5, some 6] (fun _ => [(0, gV pv v g), (1, .f (.func 187) [.p 0 0 0, .p 1 0 0, .p 2 0 0, .p 3 0 0, .p 4 0 0]), (9, .c (.r v (oR g.on))), (10, .c (I (oR g.on).length)), (11, .c (I (k + 1 : Nat)))]) (fun _ => [.box [.c (I ly)], .box [.c (I bo)], .box [.c (I tp)], .box [.c (.r w (gR gs))], .box [.p 5 0 0], gB g.st g.x g.y g.w g.h 6 (g.w * g.h), gArr (g.w * g.h) (filK g (fun q => !nearL Ls ly tp bo q) (k + 1))]) (by decide) (ZNL hE) ZCF (by rw [show filK g (fun q => !nearL Ls ly tp bo q) (k + 1) = filK g (fun q => !nearL Ls ly tp bo q) k by rw [filK_next hb, if_neg (by simp)]]; exact ZCH) (fun _ => ?_)
   exact ⟨m - 1, by omega, k + 1, by omega, rfl, rfl⟩
 obtain rfl : k = g.on.length := by omega
 refine ZZ ?_
 rw [filK_end]
 exact aret_0 [some 0, some 1, some 2, some 3, some 4, some 5, some 6] (fun _ => [.box [.c (I ly)], .box [.c (I bo)], .box [.c (I tp)], .box [.c (.r w (gR gs))], .box [.p 5 0 0], gB g.st g.x g.y g.w g.h 6 (g.w * g.h), gArr (g.w * g.h) ((filG g (fun q => !nearL Ls ly tp bo q)).on)]) (.inr rfl) rfl (by decide) (ZNK rfl) ZCH (fun _ => ⟨rfl, rfl⟩)
set_option maxHeartbeats 2000000 in
theorem solid_v (w : Value) (gs : List (Value × Value × Grd)) (Ls : List (List Spot)) (ly tp bo : Int) (hly : 0 ≤ ly ∧ ly < 100) (htp : 0 ≤ tp ∧ tp ≤ 50) (hbo : 0 ≤ bo ∧ bo ≤ 50) (hgs : gs.length ≤ 100) (hLs : Ls.length = gs.length) (hat : ∀ (k : Nat) p, gs[k]? = some p → GOk p.2.2 ∧ ∀ a b, atG p.2.2 a b = decide ((a, b) ∈ Ls.getD k [])) (pv ov : Value) (g : Grd) (hgl : gs[ly.toNat]? = some (pv, ov, g)) : ACalls Tryz.prog 135 [.c (.r w (gR gs)), .c (I ly), .c (I tp), .c (I bo)] [] fun u H => ∃ pv1 v1, u = gV pv1 v1 (filG g (fun q => !nearL Ls ly tp bo q)) ∧ H = [] := by
 obtain ⟨i, rfl⟩ : ∃ i : Nat, ly = i := ⟨ly.toNat, by omega⟩
 have hgl : gs[i]? = some (pv, ov, g) := by simpa using hgl
 have hg := (hat _ _ hgl).1
 have e1 : (gR gs).length = gs.length := by simp
 have hrow : (gR gs)[i]? = some [.p pv (gRow g ov)] := by rw [List.getElem?_map, hgl]; rfl
 have hgx := hg.x
 have hgy := hg.y
 generalize hly0 : (i : Int) = ly at *
 refine acalls_of (N := 40) Tryz.func135 rfl rfl (by simp) fun E hE => ?_
 refine WA ?_
 refine ZR ?_
 iterate 2 refine WX1 ?_
 refine ZA (YJo (i := i) (hz := by omega)) ?_
 refine WE ?_
 refine aw_cut (fun F H => F = [(4, .p 0 0 0), (5, .p 1 0 0), (6, .p 2 0 0), (7, .p 3 0 0), (9, gV pv ov g), (10, .p 6 0 0)] ∧ H = [.box [.c (.r w (gR gs))], .box [.c (I ly)], .box [.c (I tp)], .box [.c (I bo)], gB g.st g.x g.y g.w g.h 5 (g.w * g.h), gArr (g.w * g.h) (filK g (fun q => !nearL Ls ly tp bo q) 0), .box [.p 4 0 0]]) ?_ ?_ wk_aw
 ·have hf0 : filK g (fun q => !nearL Ls ly tp bo q) 0 = List.replicate (g.w * g.h) false := by rw [filK_0, hg.len]
  refine ZZ ?_
  refine aw_regionM [[(0, none), (1, none), (2, none), (3, none), (4, none), (5, none), (6, none), (7, none), (8, none), (9, none), (10, none), (11, none), (12, none), (13, none), (14, none), (15, none), (16, none), (17, none), (18, none), (19, none), (20, some []), (21, some [0, 1, 2, 3, 4, 5, 6, 7, 8, 9, 10, 11, 12, 13, 14, 15, 16, 17, 18, 19]), (22, some [])], [(0, none), (1, none), (2, none), (3, none), (4, none), (5, none), (6, none), (7, none), (8, none), (9, none), (10, none), (11, none), (12, none), (13, none), (14, none), (15, none), (16, none), (17, none), (18, none), (19, none), (21, some [0, 1, 2, 3, 4, 5, 6, 7, 8, 9, 10, 11, 12, 13, 14, 15, 16, 17, 18, 19]), (20, some []), (22, some [])]] hMixed (by kernel_rfl) ?_
  focus
   refine WM ?_
   refine am_two (by rfl) (by rfl) (by rfl) ?_ ?_
   rotate_left
   refine WM ?_
   refine am_ef (i := 20) (by rfl) (by rfl) rfl rfl (ef_call0 false (fun _ => newgrid_v g.st g.x g.y g.w g.h hg.w hg.h) rfl .fn rfl (by decide) (by kernel_rfl) rfl (fun _ => C0 rfl) (by simp)) ?_
   rintro _ _ ⟨_, _, _, ⟨rfl, rfl⟩, hF, hH⟩
   (refine NST hF hH ?_; clear hF hH; rintro rfl rfl)
   refine ⟨AGX, ?_⟩
   refine WN ?_
   rotate_right
   refine am_ef (i := 20) (by rfl) (by rfl) rfl rfl (ef_call0 false (fun _ => newgrid_v g.st g.x g.y g.w g.h hg.w hg.h) rfl .fn rfl (by decide) (by kernel_rfl) rfl (fun _ => C0 rfl) (by simp)) ?_
   rintro _ _ ⟨_, _, _, ⟨rfl, rfl⟩, hF, hH⟩
   (refine NST hF hH ?_; clear hF hH; rintro rfl rfl)
   refine ⟨AGX, ?_⟩
   refine WN ?_
  ·exact wk_of [some 0, some 1, some 2, some 3, some 4, some 5, some 6] (fun _ => [(4, .p 0 0 0), (5, .p 1 0 0), (6, .p 2 0 0), (7, .p 3 0 0), (9, gV pv ov g), (10, .p 6 0 0)]) (fun _ => [.box [.c (.r w (gR gs))], .box [.c (I ly)], .box [.c (I tp)], .box [.c (I bo)], gB g.st g.x g.y g.w g.h 5 (g.w * g.h), gArr (g.w * g.h) (filK g (fun q => !nearL Ls ly tp bo q) 0), .box [.p 4 0 0]]) (by decide) (ZNL hE) ZCF (by rw [hf0]; exact ZCH) (fun _ => ⟨rfl, rfl⟩)
  ·exact wk_of [some 0, some 1, some 2, some 3, some 5, some 6, some 4] (fun _ => [(4, .p 0 0 0), (5, .p 1 0 0), (6, .p 2 0 0), (7, .p 3 0 0), (9, gV pv ov g), (10, .p 6 0 0)]) (fun _ => [.box [.c (.r w (gR gs))], .box [.c (I ly)], .box [.c (I tp)], .box [.c (I bo)], gB g.st g.x g.y g.w g.h 5 (g.w * g.h), gArr (g.w * g.h) (filK g (fun q => !nearL Ls ly tp bo q) 0), .box [.p 4 0 0]]) (by decide) (ZNL hE) ZCF (by rw [hf0]; exact ZCH) (fun _ => ⟨rfl, rfl⟩)
 rintro F H ⟨rfl, rfl⟩
 refine ZZ ?_
 refine WR ?_
 refine al_ef rfl (ef_call [1, 3, 2, 0, 6, 4, 5] (fun _ => [.box [.c (I ly)], .box [.c (I bo)], .box [.c (I tp)], .box [.c (.r w (gR gs))], .box [.p 5 0 0], gB g.st g.x g.y g.w g.h 6 (g.w * g.h), gArr (g.w * g.h) (filK g (fun q => !nearL Ls ly tp bo q) 0)]) false (fun _ => each_solid g pv ov w gs Ls ly tp bo hly htp hbo hgs hLs hat hg) rfl .fn rfl (by decide) (by kernel_rfl) rfl ZCH (by decide) ZCH (by simp)) ?_
 rintro F1 H1 ⟨_, _, _, _, ⟨rfl, rfl⟩, hF, hH⟩
 (refine NSU hF hH ?_; clear hF hH; rintro rfl rfl)
 refine WE ?_
 refine WA ?_
 have hln : (filG g (fun q => !nearL Ls ly tp bo q)).on.length = g.w * g.h := (filG_ok hg _).len
 exact aret_of (us := [.p 4 0 0]) [] (fun f => gV (f (.p 4 0 0)) (f (.o 5 0 (g.w * g.h) (g.w * g.h))) (filG g (fun q => !nearL Ls ly tp bo q))) (fun _ => []) (.tmp rfl .nil) (by decide) (fun i hi => absurd hi (Nat.not_lt_zero i)) (fun f => frzG rfl rfl hln rfl rfl) (fun _ => .nil) (fun f => ⟨_, _, rfl, rfl⟩)
end Go.Proofs.YtniolldgidgffaaGreatDoor
