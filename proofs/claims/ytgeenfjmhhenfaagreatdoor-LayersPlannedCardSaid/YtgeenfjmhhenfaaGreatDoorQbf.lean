/- Solid, by value. -/
import Derived.Test.YtgeenfjmhhenfaaGreatDoorQbe
set_option linter.unusedSimpArgs false
set_option linter.unusedVariables false
/- Solid cells, by value. -/
-- NEWM
namespace Go.Proofs.YtgeenfjmhhenfaaGreatDoor
open Go Go.RowKit
set_option maxRecDepth 100000
set_option maxHeartbeats 1000000 in
theorem each_solid (g : Grd) (pv v : Value) (w : Value) (gs : List (Value × Value × Grd)) (Ls : List (List Spot)) (ly tp bo : Int) (hly : 0 ≤ ly ∧ ly < 100) (htp : 0 ≤ tp ∧ tp ≤ 50) (hbo : 0 ≤ bo ∧ bo ≤ 50) (hgs : gs.length ≤ 100) (hLs : Ls.length = gs.length) (hat : ∀ (k : Nat) p, gs[k]? = some p → GOk p.2.2 ∧ ∀ a b, atG p.2.2 a b = decide ((a, b) ∈ Ls.getD k [])) (hg : GOk g)  : ACalls Tryz.prog 113 [gV pv v g, .f (.func 138) [.p 0 0 0, .p 1 0 0, .p 2 0 0, .p 3 0 0, .p 4 0 0]] [.box [.c (I ly)], .box [.c (I bo)], .box [.c (I tp)], .box [.c (.r w (gR gs))], .box [.p 5 0 0], gB g.st g.x g.y g.w g.h 6 (g.w * g.h), gArr (g.w * g.h) (filK g (fun q => !nearL Ls ly tp bo q) 0)] fun u H => u = .t [] ∧ H = [.box [.c (I ly)], .box [.c (I bo)], .box [.c (I tp)], .box [.c (.r w (gR gs))], .box [.p 5 0 0], gB g.st g.x g.y g.w g.h 6 (g.w * g.h), gArr (g.w * g.h) ((filG g (fun q => !nearL Ls ly tp bo q)).on)] := by
 have hn := hg.n
 have hgx := hg.x
 have hgy := hg.y
 have eo : (oR g.on).length = g.on.length := by simp
 refine acallsx_of false (N := 42) Tryz.func113 rfl rfl (by simp) fun E hE hP => ?_
 refine WA ?_
 refine aw_loopw (fun m F H => ∃ k : Nat, m + k = g.on.length ∧ F = [(0, gV pv v g), (1, .f (.func 138) [.p 0 0 0, .p 1 0 0, .p 2 0 0, .p 3 0 0, .p 4 0 0]), (9, .c (.r v (oR g.on))), (10, .c (I (oR g.on).length)), (11, .c (I k))] ∧ H = [.box [.c (I ly)], .box [.c (I bo)], .box [.c (I tp)], .box [.c (.r w (gR gs))], .box [.p 5 0 0], gB g.st g.x g.y g.w g.h 6 (g.w * g.h), gArr (g.w * g.h) (filK g (fun q => !nearL Ls ly tp bo q) k)]) ?_ ?_
 ·refine wk_of [some 0, some 1, some 2, some 3, some 4, some 5, some 6] (fun _ => [(0, gV pv v g), (1, .f (.func 138) [.p 0 0 0, .p 1 0 0, .p 2 0 0, .p 3 0 0, .p 4 0 0]), (9, .c (.r v (oR g.on))), (10, .c (I (oR g.on).length)), (11, .c (I (0 : Nat)))]) (fun _ => [.box [.c (I ly)], .box [.c (I bo)], .box [.c (I tp)], .box [.c (.r w (gR gs))], .box [.p 5 0 0], gB g.st g.x g.y g.w g.h 6 (g.w * g.h), gArr (g.w * g.h) (filK g (fun q => !nearL Ls ly tp bo q) 0)]) (by decide) (ZNL hE) ZCF ZCH (fun _ => ?_)
  exact ⟨g.on.length, 0, by omega, rfl, rfl⟩
 rintro m F H ⟨k, hk, rfl, rfl⟩
 refine WA ?_
 refine aw_if rfl (fun hlt => ?_) (fun hge => ?_)
 ·have hkn : k < g.on.length := by omega
  obtain ⟨b, hb⟩ : ∃ b, g.on[k]? = some b := ⟨_, List.getElem?_eq_getElem hkn⟩
  have hrow : (oR g.on)[k]? = some [B b] := by rw [List.getElem?_map, hb]; rfl
  obtain ⟨w1, ⟨w2, w3⟩, w4, w5⟩ := each_at hg hkn
  refine WA ?_
  refine WA ?_
  cases b with
  | true =>
   refine aw_cond_t rfl ?_
   have hnx : filK g (fun q => !nearL Ls ly tp bo q) (k + 1) = if nearL Ls ly tp bo (spt g k) = true then filK g (fun q => !nearL Ls ly tp bo q) k else (filK g (fun q => !nearL Ls ly tp bo q) k).set k true := by rw [filK_next hb, Bool.true_and]; cases nearL Ls ly tp bo (spt g k) <;> rfl
   refine ZZ ?_
   refine aw_regionT [(0, none), (1, none), (2, none), (3, none), (4, none), (5, none), (6, none), (7, none), (8, none), (9, none), (10, none), (11, none), (12, none), (13, none), (14, none), (15, none), (16, none), (17, none), (18, none), (19, none), (20, none), (21, none), (22, none), (23, some [])] hMixed (by kernel_rfl) ?_
   refine WP ?_
   refine at_ef rfl rfl (ef_call [0, 1, 2, 3, 4, 5, 6] (fun _ => [.box [.c (I ly)], .box [.c (I bo)], .box [.c (I tp)], .box [.c (.r w (gR gs))], .box [.p 5 0 0], gB g.st g.x g.y g.w g.h 6 (g.w * g.h), gArr (g.w * g.h) (filK g (fun q => !nearL Ls ly tp bo q) k)]) false (fun _ => solid1_v w gs Ls ly tp bo hly htp hbo hgs hLs hat g hg (filK g (fun q => !nearL Ls ly tp bo q) k) k hkn (by rw [filK_len (by omega)]; exact hg.len) _ _ rfl rfl) rfl (.clo rfl) rfl (by decide) (by kernel_rfl) rfl ZCH (by decide) ZCH (by simp)) ?_
   rintro F1 H1 ⟨_, _, _, _, ⟨rfl, rfl⟩, hF, hH⟩
   rw [spt_eq, ← hnx] at hH
   (refine NSU hF hH ?_; clear hF hH; rintro rfl rfl)
   refine ⟨ag_none, ?_⟩
   refine WQ ?_
   refine WA ?_
   refine wk_of [some 0, some 1, some 2, some 3, some 4, some 5, some 6] (fun _ => [(0, gV pv v g), (1, .f (.func 138) [.p 0 0 0, .p 1 0 0, .p 2 0 0, .p 3 0 0, .p 4 0 0]), (9, .c (.r v (oR g.on))), (10, .c (I (oR g.on).length)), (11, .c (I (k + 1 : Nat)))]) (fun _ => [.box [.c (I ly)], .box [.c (I bo)], .box [.c (I tp)], .box [.c (.r w (gR gs))], .box [.p 5 0 0], gB g.st g.x g.y g.w g.h 6 (g.w * g.h), gArr (g.w * g.h) (filK g (fun q => !nearL Ls ly tp bo q) (k + 1))]) (by decide) (ZNL hE) ZCF ZCH (fun _ => ?_)
   exact ⟨m - 1, by omega, k + 1, by omega, rfl, rfl⟩
  | false =>
   refine aw_cond_f rfl ?_
   refine ZZ ?_
   refine WA ?_
   refine wk_of [some 0, some 1, some 2, some 3, some 4, some 5, some 6] (fun _ => [(0, gV pv v g), (1, .f (.func 138) [.p 0 0 0, .p 1 0 0, .p 2 0 0, .p 3 0 0, .p 4 0 0]), (9, .c (.r v (oR g.on))), (10, .c (I (oR g.on).length)), (11, .c (I (k + 1 : Nat)))]) (fun _ => [.box [.c (I ly)], .box [.c (I bo)], .box [.c (I tp)], .box [.c (.r w (gR gs))], .box [.p 5 0 0], gB g.st g.x g.y g.w g.h 6 (g.w * g.h), gArr (g.w * g.h) (filK g (fun q => !nearL Ls ly tp bo q) (k + 1))]) (by decide) (ZNL hE) ZCF (by rw [show filK g (fun q => !nearL Ls ly tp bo q) (k + 1) = filK g (fun q => !nearL Ls ly tp bo q) k by rw [filK_next hb, if_neg (by simp)]]; exact ZCH) (fun _ => ?_)
   exact ⟨m - 1, by omega, k + 1, by omega, rfl, rfl⟩
 obtain rfl : k = g.on.length := by omega
 refine ZZ ?_
 rw [filK_end]
 exact aret_0 [some 0, some 1, some 2, some 3, some 4, some 5, some 6] (fun _ => [.box [.c (I ly)], .box [.c (I bo)], .box [.c (I tp)], .box [.c (.r w (gR gs))], .box [.p 5 0 0], gB g.st g.x g.y g.w g.h 6 (g.w * g.h), gArr (g.w * g.h) ((filG g (fun q => !nearL Ls ly tp bo q)).on)]) (.inr rfl) rfl (by decide) (ZNK rfl) ZCH (fun _ => ⟨rfl, rfl⟩)
set_option maxHeartbeats 2000000 in
theorem solid_v (w : Value) (gs : List (Value × Value × Grd)) (Ls : List (List Spot)) (ly tp bo : Int) (hly : 0 ≤ ly ∧ ly < 100) (htp : 0 ≤ tp ∧ tp ≤ 50) (hbo : 0 ≤ bo ∧ bo ≤ 50) (hgs : gs.length ≤ 100) (hLs : Ls.length = gs.length) (hat : ∀ (k : Nat) p, gs[k]? = some p → GOk p.2.2 ∧ ∀ a b, atG p.2.2 a b = decide ((a, b) ∈ Ls.getD k [])) (pv ov : Value) (g : Grd) (hgl : gs[ly.toNat]? = some (pv, ov, g)) : ACalls Tryz.prog 64 [.c (.r w (gR gs)), .c (I ly), .c (I tp), .c (I bo)] [] fun u H => ∃ pv1 v1, u = gV pv1 v1 (filG g (fun q => !nearL Ls ly tp bo q)) ∧ H = [] := by
 obtain ⟨i, rfl⟩ : ∃ i : Nat, ly = i := ⟨ly.toNat, by omega⟩
 have hgl : gs[i]? = some (pv, ov, g) := by simpa using hgl
 have hg := (hat _ _ hgl).1
 have e1 : (gR gs).length = gs.length := by simp
 have hrow : (gR gs)[i]? = some [.p pv (gRow g ov)] := by rw [List.getElem?_map, hgl]; rfl
 have hgx := hg.x
 have hgy := hg.y
 generalize hly0 : (i : Int) = ly at *
 refine acalls_of (N := 40) Tryz.func64 rfl rfl (by simp) fun E hE => ?_
 refine WA ?_
 refine ZR ?_
 iterate 2 refine WX1 ?_
 refine ZA (YJo (i := i) (hz := by omega)) ?_
 refine WE ?_
 refine aw_cut (fun F H => F = [(4, .p 0 0 0), (5, .p 1 0 0), (6, .p 2 0 0), (7, .p 3 0 0), (9, gV pv ov g), (10, .p 6 0 0)] ∧ H = [.box [.c (.r w (gR gs))], .box [.c (I ly)], .box [.c (I tp)], .box [.c (I bo)], gB g.st g.x g.y g.w g.h 5 (g.w * g.h), gArr (g.w * g.h) (filK g (fun q => !nearL Ls ly tp bo q) 0), .box [.p 4 0 0]]) ?_ ?_ wk_aw
 ·have hf0 : filK g (fun q => !nearL Ls ly tp bo q) 0 = List.replicate (g.w * g.h) false := by rw [filK_0, hg.len]
  refine ZZ ?_
  refine aw_regionM [[(0, none), (1, none), (2, none), (3, none), (4, none), (5, none), (6, none), (7, none), (8, none), (9, none), (10, none), (11, none), (12, none), (13, none), (14, none), (15, none), (16, none), (17, none), (18, none), (19, none), (20, some []), (21, some [0, 1, 2, 3, 4, 5, 6, 7, 8, 9, 10, 11, 12, 13, 14, 15, 16, 17, 18, 19]), (22, some [])], [(0, none), (1, none), (2, none), (3, none), (4, none), (5, none), (6, none), (7, none), (8, none), (9, none), (10, none), (11, none), (12, none), (13, none), (14, none), (15, none), (16, none), (17, none), (18, none), (19, none), (21, some [0, 1, 2, 3, 4, 5, 6, 7, 8, 9, 10, 11, 12, 13, 14, 15, 16, 17, 18, 19]), (20, some []), (22, some [])]] hMixed (by kernel_rfl) ?_
  focus
   refine WM ?_
   refine am_two (by rfl) (by rfl) (by rfl) ?_ ?_
   rotate_left
   refine WM ?_
   refine am_ef (i := 20) (by rfl) (by rfl) rfl rfl (ef_call0 false (fun _ => newgrid_v g.st g.x g.y g.w g.h hg.w hg.h) rfl .fn rfl (by decide) (by kernel_rfl) rfl (fun _ => C0 rfl) (by simp)) ?_
   rintro _ _ ⟨_, _, _, ⟨rfl, rfl⟩, hF, hH⟩
   (refine NST hF hH ?_; clear hF hH; rintro rfl rfl)
   refine ⟨AGX, ?_⟩
   refine WN ?_
   rotate_right
   refine am_ef (i := 20) (by rfl) (by rfl) rfl rfl (ef_call0 false (fun _ => newgrid_v g.st g.x g.y g.w g.h hg.w hg.h) rfl .fn rfl (by decide) (by kernel_rfl) rfl (fun _ => C0 rfl) (by simp)) ?_
   rintro _ _ ⟨_, _, _, ⟨rfl, rfl⟩, hF, hH⟩
   (refine NST hF hH ?_; clear hF hH; rintro rfl rfl)
   refine ⟨AGX, ?_⟩
   refine WN ?_
  ·exact wk_of [some 0, some 1, some 2, some 3, some 4, some 5, some 6] (fun _ => [(4, .p 0 0 0), (5, .p 1 0 0), (6, .p 2 0 0), (7, .p 3 0 0), (9, gV pv ov g), (10, .p 6 0 0)]) (fun _ => [.box [.c (.r w (gR gs))], .box [.c (I ly)], .box [.c (I tp)], .box [.c (I bo)], gB g.st g.x g.y g.w g.h 5 (g.w * g.h), gArr (g.w * g.h) (filK g (fun q => !nearL Ls ly tp bo q) 0), .box [.p 4 0 0]]) (by decide) (ZNL hE) ZCF (by rw [hf0]; exact ZCH) (fun _ => ⟨rfl, rfl⟩)
  ·exact wk_of [some 0, some 1, some 2, some 3, some 5, some 6, some 4] (fun _ => [(4, .p 0 0 0), (5, .p 1 0 0), (6, .p 2 0 0), (7, .p 3 0 0), (9, gV pv ov g), (10, .p 6 0 0)]) (fun _ => [.box [.c (.r w (gR gs))], .box [.c (I ly)], .box [.c (I tp)], .box [.c (I bo)], gB g.st g.x g.y g.w g.h 5 (g.w * g.h), gArr (g.w * g.h) (filK g (fun q => !nearL Ls ly tp bo q) 0), .box [.p 4 0 0]]) (by decide) (ZNL hE) ZCF (by rw [hf0]; exact ZCH) (fun _ => ⟨rfl, rfl⟩)
 rintro F H ⟨rfl, rfl⟩
 refine ZZ ?_
 refine WR ?_
 refine al_ef rfl (ef_call [1, 3, 2, 0, 6, 4, 5] (fun _ => [.box [.c (I ly)], .box [.c (I bo)], .box [.c (I tp)], .box [.c (.r w (gR gs))], .box [.p 5 0 0], gB g.st g.x g.y g.w g.h 6 (g.w * g.h), gArr (g.w * g.h) (filK g (fun q => !nearL Ls ly tp bo q) 0)]) false (fun _ => each_solid g pv ov w gs Ls ly tp bo hly htp hbo hgs hLs hat hg) rfl .fn rfl (by decide) (by kernel_rfl) rfl ZCH (by decide) ZCH (by simp)) ?_
 rintro F1 H1 ⟨_, _, _, _, ⟨rfl, rfl⟩, hF, hH⟩
 (refine NSU hF hH ?_; clear hF hH; rintro rfl rfl)
 refine WE ?_
 refine WA ?_
 have hln : (filG g (fun q => !nearL Ls ly tp bo q)).on.length = g.w * g.h := (filG_ok hg _).len
 exact aret_of (us := [.p 4 0 0]) [] (fun f => gV (f (.p 4 0 0)) (f (.o 5 0 (g.w * g.h) (g.w * g.h))) (filG g (fun q => !nearL Ls ly tp bo q))) (fun _ => []) (.tmp rfl .nil) (by decide) (fun i hi => absurd hi (Nat.not_lt_zero i)) (fun f => frzG rfl rfl hln rfl rfl) (fun _ => .nil) (fun f => ⟨_, _, rfl, rfl⟩)
end Go.Proofs.YtgeenfjmhhenfaaGreatDoor

/- Solid, by value. -/
-- NEWM
namespace Go.Proofs.YtgeenfjmhhenfaaGreatDoor
open Go Go.RowKit
set_option maxRecDepth 100000
theorem grids_at {l : List (Value × Cel)} {gs : List (Value × Value × Grd)} (hok : ∀ p ∈ l, RCel p.2) (h : gs.map (fun p => p.2.2) = l.map (fun p => grdOf p.2)) (k : Nat) (p : Value × Value × Grd) (hp : gs[k]? = some p) : ∃ va c, l[k]? = some (va, c) ∧ RCel c ∧ p.2.2 = grdOf c ∧ ((l.map fun p => covL p.2).getD k []) = covL c := by
 have h1 : (gs.map (fun p => p.2.2))[k]? = some p.2.2 := by rw [List.getElem?_map, hp]; rfl
 rw [h, List.getElem?_map] at h1
 obtain ⟨⟨va, c⟩, h2, h3⟩ := Option.map_eq_some_iff.1 h1
 exact ⟨va, c, h2, hok _ (List.mem_of_getElem? h2), h3.symm, by rw [List.getD_eq_getElem?_getD, List.getElem?_map, h2]; rfl⟩
def solL (l : List Cel) (i : Nat) (tp bo : Int) : List Spot := ((l.map covL).getD i []).filter fun q => !nearL (l.map covL) i tp bo q
def solF (l : List Cel) (ly tp bo : Int) : Int := if layF l ≠ 0 then layF l else if ly < 0 ∨ (l.length : Int) ≤ ly then 8 else if (outB tp 0 50 || outB bo 0 50) = true then 1 else 0
theorem layF_ok {l : List (Value × Cel)} (h : layF (l.map Prod.snd) = 0) : l.length ≤ 50 ∧ ∀ p ∈ l, RCel p.2 ∧ ∀ p' ∈ l, p'.2.st = p.2.st := by
 unfold layF at h
 split at h
 ·cases h
 rename_i h1
 rw [List.length_map] at h1
 have key : ∀ (st : Int) (cs : List Cel), layG st cs = 0 → ∀ c ∈ cs, RCel c ∧ c.st = st := by
  intro st cs
  induction cs with
  | nil => intro _ c hc; cases hc
  | cons c cs ih =>
   intro h c' hc'
   unfold layG at h
   split at h
   ·rename_i h2; exact absurd h h2
   rename_i h2
   split at h
   ·cases h
   rename_i h3
   rcases List.mem_cons.1 hc' with rfl | hc'
   ·exact ⟨celF_0.1 (by simpa using h2), by simpa using h3⟩
   ·exact ih h c' hc'
 refine ⟨by omega, fun p hp => ?_⟩
 have k1 := key _ _ h p.2 (List.mem_map_of_mem hp)
 exact ⟨k1.1, fun p' hp' => (key _ _ h p'.2 (List.mem_map_of_mem hp')).2.trans k1.2.symm⟩
set_option maxHeartbeats 2000000 in
theorem solidT_v (va : Value) (l : List (Value × Cel)) (ly tp bo : Int) (hsz : ∀ p ∈ l, p.2.rows.length ≤ 1000000000 ∧ ∀ r ∈ p.2.rows, r.length ≤ 1000000000) (hl : l.length ≤ 1000000) (hnr : ∀ p ∈ l, RCel p.2 → NCel p.2) : ACalls Tryz.prog 12 [.c (.r va (cR l)), .c (I ly), .c (I tp), .c (I bo)] [] fun u H => ∃ (v : Value) (S : Cel), u = .t [celA v S, .c (I (solF (l.map Prod.snd) ly tp bo))] ∧ (solF (l.map Prod.snd) ly tp bo ≠ 0 → S = ⟨0, 0, 0, []⟩) ∧ (solF (l.map Prod.snd) ly tp bo = 0 → (∀ p ∈ l, NCel p.2) ∧ ∃ (i : Nat) (c : Cel), ly = i ∧ (l.map Prod.snd)[i]? = some c ∧ S = celN c.st (solL (l.map Prod.snd) i tp bo)) ∧ H = [] := by
 have e1 : (cR l).length = l.length := by simp
 obtain ⟨q, hq⟩ : ∃ q, layF (l.map Prod.snd) = q := ⟨_, rfl⟩
 have hsf : solF (l.map Prod.snd) ly tp bo = if q ≠ 0 then q else if ly < 0 ∨ (l.length : Int) ≤ ly then 8 else if (outB tp 0 50 || outB bo 0 50) = true then 1 else 0 := by rw [solF, hq, List.length_map]
 rw [hsf]
 refine acalls_of (N := 44) Tryz.func12 rfl rfl (by simp) fun E hE => ?_
 refine WA ?_
 refine WR ?_
 refine al_ef rfl (ef_call0 false (fun _ => layersfault_v va l hsz (by omega)) rfl .fn rfl (by decide) (by kernel_rfl) rfl (fun _ => C0 rfl) (by simp)) ?_
 rintro _ _ ⟨_, _, _, ⟨rfl, rfl⟩, hF, hH⟩
 rw [hq] at hF
 (refine NST hF hH ?_; clear hF hH; rintro rfl rfl)
 refine WE ?_
 refine WA ?_
 refine aw_if rfl (fun h1 => ?_) (fun h1 => ?_)
 ·rw [if_pos h1]
  refine WA ?_
  exact aret_of (us := [.a [.c (I 0), .c (I 0), .c (I 0), .c (.r (.slice none 0 0) [])], .c (I q)]) [] (fun _ => .t [.a [.c (I 0), .c (I 0), .c (I 0), .c (.r (.slice none 0 0) [])], .c (I q)]) (fun _ => []) (.cella (n := 4) rfl (by kernel_rfl) (Cells.box rfl) (by simp) (by (try simp only [nm, putL, Nat.reduceAdd, cellsOf, cvOf]) <;> rfl) (.tmp rfl .nil)) (by decide) (fun i hi => absurd hi (Nat.not_lt_zero i)) (fun g' => .tL (.cons (.aL (.cons (.c rfl) (.cons (.c rfl) (.cons (.c rfl) (.cons (.c rfl) .nil))))) (.cons (.c rfl) .nil))) (fun _ => .nil) (fun g' => ⟨.slice none 0 0, ⟨0, 0, 0, []⟩, rfl, fun _ => rfl, fun e => absurd e h1, rfl⟩)
 rw [if_neg h1]
 obtain rfl : q = 0 := by omega
 obtain ⟨hl5, hlk⟩ := layF_ok hq
 have hok : ∀ p ∈ l, RCel p.2 := fun p hp => (hlk p hp).1
 refine ZZ ?_
 by_cases hly0 : ly < 0
 ·rw [if_pos (.inl hly0)]
  refine WA ?_
  refine aw_cond_t rfl ?_
  refine WA ?_
  exact aret_of (us := [.a [.c (I 0), .c (I 0), .c (I 0), .c (.r (.slice none 0 0) [])], .c (I 8)]) [] (fun _ => .t [.a [.c (I 0), .c (I 0), .c (I 0), .c (.r (.slice none 0 0) [])], .c (I 8)]) (fun _ => []) (.cella (n := 4) rfl (by kernel_rfl) (Cells.box rfl) (by simp) (by (try simp only [nm, putL, Nat.reduceAdd, cellsOf, cvOf]) <;> rfl) (.tmp rfl .nil)) (by decide) (fun i hi => absurd hi (Nat.not_lt_zero i)) (fun g' => .tL (.cons (.aL (.cons (.c rfl) (.cons (.c rfl) (.cons (.c rfl) (.cons (.c rfl) .nil))))) (.cons (.c rfl) .nil))) (fun _ => .nil) (fun g' => ⟨.slice none 0 0, ⟨0, 0, 0, []⟩, rfl, fun _ => rfl, fun e => absurd e (by decide), rfl⟩)
 by_cases hly1 : (l.length : Int) ≤ ly
 ·rw [if_pos (.inr hly1)]
  refine WA ?_
  refine aw_cond_t rfl ?_
  refine WA ?_
  exact aret_of (us := [.a [.c (I 0), .c (I 0), .c (I 0), .c (.r (.slice none 0 0) [])], .c (I 8)]) [] (fun _ => .t [.a [.c (I 0), .c (I 0), .c (I 0), .c (.r (.slice none 0 0) [])], .c (I 8)]) (fun _ => []) (.cella (n := 4) rfl (by kernel_rfl) (Cells.box rfl) (by simp) (by (try simp only [nm, putL, Nat.reduceAdd, cellsOf, cvOf]) <;> rfl) (.tmp rfl .nil)) (by decide) (fun i hi => absurd hi (Nat.not_lt_zero i)) (fun g' => .tL (.cons (.aL (.cons (.c rfl) (.cons (.c rfl) (.cons (.c rfl) (.cons (.c rfl) .nil))))) (.cons (.c rfl) .nil))) (fun _ => .nil) (fun g' => ⟨.slice none 0 0, ⟨0, 0, 0, []⟩, rfl, fun _ => rfl, fun e => absurd e (by decide), rfl⟩)
 rw [if_neg (by omega)]
 refine WA ?_
 refine aw_cond_f rfl ?_
 refine ZZ ?_
 obtain ⟨b1, o1⟩ : ∃ b, outB tp 0 50 = b := ⟨_, rfl⟩
 obtain ⟨b2, o2⟩ : ∃ b, outB bo 0 50 = b := ⟨_, rfl⟩
 rw [o1, o2]
 cases b1 with
 | true =>
  refine WR ?_
  refine al_ef rfl (ef_call0 false (fun _ => isstack_v _) rfl .fn rfl (by decide) (by kernel_rfl) rfl (fun _ => C0 rfl) (by simp)) ?_
  rintro _ _ ⟨_, _, _, ⟨rfl, rfl⟩, hF, hH⟩
  rw [o1] at hF
  (refine NST hF hH ?_; clear hF hH; rintro rfl rfl)
  refine WO ?_
  first | refine ZS ?_ | (refine G1 rfl ?_; refine al_ef rfl (ef_call0 false (fun _ => isstack_v _) rfl .fn rfl (by decide) (by kernel_rfl) rfl (fun _ => C0 rfl) (by simp)) ?_; rintro _ _ ⟨_, _, _, ⟨rfl, rfl⟩, hF, hH⟩; rw [o2] at hF; (refine NST hF hH ?_; clear hF hH; rintro rfl rfl)) | skip
  refine WE ?_
  refine aw_cond_t rfl ?_
  refine WA ?_
  exact aret_of (us := [.a [.c (I 0), .c (I 0), .c (I 0), .c (.r (.slice none 0 0) [])], .c (I 1)]) [] (fun _ => .t [.a [.c (I 0), .c (I 0), .c (I 0), .c (.r (.slice none 0 0) [])], .c (I 1)]) (fun _ => []) (.cella (n := 4) rfl (by kernel_rfl) (Cells.box rfl) (by simp) (by (try simp only [nm, putL, Nat.reduceAdd, cellsOf, cvOf]) <;> rfl) (.tmp rfl .nil)) (by decide) (fun i hi => absurd hi (Nat.not_lt_zero i)) (fun g' => .tL (.cons (.aL (.cons (.c rfl) (.cons (.c rfl) (.cons (.c rfl) (.cons (.c rfl) .nil))))) (.cons (.c rfl) .nil))) (fun _ => .nil) (fun g' => ⟨.slice none 0 0, ⟨0, 0, 0, []⟩, rfl, fun _ => rfl, fun e => absurd e (by simp), rfl⟩)
 | false =>
 cases b2 with
 | true =>
  refine WR ?_
  refine al_ef rfl (ef_call0 false (fun _ => isstack_v _) rfl .fn rfl (by decide) (by kernel_rfl) rfl (fun _ => C0 rfl) (by simp)) ?_
  rintro _ _ ⟨_, _, _, ⟨rfl, rfl⟩, hF, hH⟩
  rw [o1] at hF
  (refine NST hF hH ?_; clear hF hH; rintro rfl rfl)
  refine WO ?_
  first | refine ZS ?_ | (refine G1 rfl ?_; refine al_ef rfl (ef_call0 false (fun _ => isstack_v _) rfl .fn rfl (by decide) (by kernel_rfl) rfl (fun _ => C0 rfl) (by simp)) ?_; rintro _ _ ⟨_, _, _, ⟨rfl, rfl⟩, hF, hH⟩; rw [o2] at hF; (refine NST hF hH ?_; clear hF hH; rintro rfl rfl)) | skip
  refine WE ?_
  refine aw_cond_t rfl ?_
  refine WA ?_
  exact aret_of (us := [.a [.c (I 0), .c (I 0), .c (I 0), .c (.r (.slice none 0 0) [])], .c (I 1)]) [] (fun _ => .t [.a [.c (I 0), .c (I 0), .c (I 0), .c (.r (.slice none 0 0) [])], .c (I 1)]) (fun _ => []) (.cella (n := 4) rfl (by kernel_rfl) (Cells.box rfl) (by simp) (by (try simp only [nm, putL, Nat.reduceAdd, cellsOf, cvOf]) <;> rfl) (.tmp rfl .nil)) (by decide) (fun i hi => absurd hi (Nat.not_lt_zero i)) (fun g' => .tL (.cons (.aL (.cons (.c rfl) (.cons (.c rfl) (.cons (.c rfl) (.cons (.c rfl) .nil))))) (.cons (.c rfl) .nil))) (fun _ => .nil) (fun g' => ⟨.slice none 0 0, ⟨0, 0, 0, []⟩, rfl, fun _ => rfl, fun e => absurd e (by simp), rfl⟩)
 | false =>
 have htp : 0 ≤ tp ∧ tp ≤ 50 := by simp [outB] at o1; exact o1
 have hbo : 0 ≤ bo ∧ bo ≤ 50 := by simp [outB] at o2; exact o2
 refine WR ?_
 refine al_ef rfl (ef_call0 false (fun _ => isstack_v _) rfl .fn rfl (by decide) (by kernel_rfl) rfl (fun _ => C0 rfl) (by simp)) ?_
 rintro _ _ ⟨_, _, _, ⟨rfl, rfl⟩, hF, hH⟩
 rw [o1] at hF
 (refine NST hF hH ?_; clear hF hH; rintro rfl rfl)
 refine WO ?_
 first | refine ZS ?_ | (refine G1 rfl ?_; refine al_ef rfl (ef_call0 false (fun _ => isstack_v _) rfl .fn rfl (by decide) (by kernel_rfl) rfl (fun _ => C0 rfl) (by simp)) ?_; rintro _ _ ⟨_, _, _, ⟨rfl, rfl⟩, hF, hH⟩; rw [o2] at hF; (refine NST hF hH ?_; clear hF hH; rintro rfl rfl)) | skip
 refine WE ?_
 refine aw_cond_f rfl ?_
 refine ZZ ?_
 obtain ⟨i, rfl⟩ : ∃ i : Nat, ly = i := ⟨ly.toNat, by omega⟩
 obtain ⟨⟨vc, c⟩, hic⟩ : ∃ e, l[i]? = some e := ⟨_, List.getElem?_eq_getElem (by omega)⟩
 have hcm := List.mem_of_getElem? hic
 have hnc : NCel c := hnr _ hcm (hok _ hcm)
 have hmm : (l.map Prod.snd).map covL = l.map fun p => covL p.2 := by rw [List.map_map]; rfl
 have hsolid : ∀ (w : Value) (gs : List (Value × Value × Grd)), gs.map (fun p => p.2.2) = l.map (fun p => grdOf p.2) → ∃ g, (GOk g ∧ (0 ≤ g.st ∧ g.st ≤ 10000) ∧ normC g.st (covG g) = (celN c.st (solL (l.map Prod.snd) i tp bo), 0)) ∧ ACalls Tryz.prog 64 [.c (.r w (gR gs)), .c (I i), .c (I tp), .c (I bo)] [] fun u H => ∃ pv1 v1, u = gV pv1 v1 g ∧ H = [] := fun w gs hgs => by
  have hgl : gs.length = l.length := by have := congrArg List.length hgs; simpa using this
  obtain ⟨⟨pv, ov, g⟩, hz⟩ : ∃ e, gs[i]? = some e := ⟨_, List.getElem?_eq_getElem (by omega)⟩
  obtain ⟨va', c', h2, h3, h4, h5⟩ := grids_at hok hgs i _ hz
  rw [hic] at h2
  obtain ⟨rfl, rfl⟩ := Prod.mk.inj (Option.some.inj h2)
  obtain rfl : g = grdOf c := h4
  have hst := h3.st
  refine ⟨filG (grdOf c) _, ⟨filG_ok (grdOf_ok h3) _, by show 0 ≤ (grdOf c).st ∧ (grdOf c).st ≤ 10000; rw [grdOf_st]; omega, ?_⟩, solid_v w gs (l.map fun p => covL p.2) i tp bo (by omega) htp hbo (by omega) (by simp [hgl]) (fun k p hp => ?_) pv ov (grdOf c) hz⟩
  ·have hL : ∀ q, q ∈ solL (l.map Prod.snd) i tp bo ↔ q ∈ covL c ∧ (fun q => !nearL (l.map fun p => covL p.2) (i : Int) tp bo q) q = true := fun q => by rw [solL, hmm, h5, List.mem_filter]
   rw [show (filG (grdOf c) (fun q => !nearL (l.map fun p => covL p.2) (i : Int) tp bo q)).st = (grdOf c).st from rfl, normC_fil h3 hL]
   exact (normC_ok hnc fun p hp => ((hL p).1 hp).1).1
  ·obtain ⟨va', c', q2, q3, q4, q5⟩ := grids_at hok hgs k _ hp
   rw [q4]
   exact ⟨grdOf_ok q3, fun a b => by rw [at_cov q3, q5]⟩
 refine WR ?_
 refine al_ef rfl (ef_call0 false (fun _ => grids_v va l hok (by omega)) rfl .fn rfl (by decide) (by kernel_rfl) rfl (fun _ => C0 rfl) (by simp)) ?_
 rintro _ _ ⟨_, _, _, ⟨w, gs, rfl, hgs, rfl⟩, hF, hH⟩
 (refine NST hF hH ?_; clear hF hH; rintro rfl rfl)
 refine WO ?_
 obtain ⟨g, hgl, hsol⟩ := hsolid w gs hgs
 refine al_ef rfl (ef_call0 false (fun _ => hsol) rfl .fn rfl (by decide) (by kernel_rfl) rfl (fun _ => C0 rfl) (by simp)) ?_
 rintro _ _ ⟨_, _, _, ⟨pv1, v1, rfl, rfl⟩, hF, hH⟩
 (refine NST hF hH ?_; clear hF hH; rintro rfl rfl)
 refine al_ef rfl (ef_call0 false (fun _ => cells_v g pv1 v1 hgl.1 hgl.2.1) rfl .fn rfl (by decide) (by kernel_rfl) rfl (fun _ => C0 rfl) (by simp)) ?_
 rintro _ _ ⟨_, _, _, ⟨v2, rfl, rfl⟩, hF, hH⟩
 rw [hgl.2.2] at hF
 (refine NST hF hH ?_; clear hF hH; rintro rfl rfl)
 refine WE ?_
 generalize hS : celN c.st (solL (l.map Prod.snd) i tp bo) = S at *
 exact aret_of (us := [.a [.c (I S.st), .c (I S.x), .c (I S.y), .c (.r v2 (tR S.rows))], .c (I 0)]) [] (fun _ => .t [.a [.c (I S.st), .c (I S.x), .c (I S.y), .c (.r v2 (tR S.rows))], .c (I 0)]) (fun _ => []) (.cella (n := 4) rfl (by kernel_rfl) (Cells.box rfl) (by simp) (by (try simp only [nm, putL, Nat.reduceAdd, cellsOf, cvOf]) <;> rfl) (.tmp rfl .nil)) (by decide) (fun i hi => absurd hi (Nat.not_lt_zero i)) (fun g' => .tL (.cons (.aL (.cons (.c rfl) (.cons (.c rfl) (.cons (.c rfl) (.cons (.c rfl) .nil))))) (.cons (.c rfl) .nil))) (fun _ => .nil) (fun g' => ⟨v2, S, rfl, fun e => absurd rfl e, fun _ => ⟨fun p hp => hnr p hp (hok p hp), i, c, rfl, by rw [List.getElem?_map, hic]; rfl, hS.symm⟩, rfl⟩)
end Go.Proofs.YtgeenfjmhhenfaaGreatDoor
