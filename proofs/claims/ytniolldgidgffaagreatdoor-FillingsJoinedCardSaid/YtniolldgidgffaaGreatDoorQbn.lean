/- Lines in the document's form and of a grid are alike: plain. -/
import Derived.Test.YtniolldgidgffaaGreatDoorQbg
import Derived.Test.YtniolldgidgffaaGreatDoorQbm
import Derived.Test.YtniolldgidgffaaGreatDoorQbj
set_option linter.unusedSimpArgs false
set_option linter.unusedVariables false
/- The reference's WholeOf: as Whole. -/
-- NEWM
namespace Go.Proofs.YtniolldgidgffaaGreatDoor
open Go Go.RowKit
set_option maxRecDepth 100000
theorem cloneC_a (R : List (List CV)) (v : Value) (hR : OkR 4 R) (hl : R.length ≤ 1000000) : ACalls Tryz.prog 113 [.c (.r v R)] [] fun u H => ∃ c : Nat, R.length ≤ c ∧ u = .o 0 0 R.length c ∧ H = [.arr 28 4 c R] := by
 refine acalls_of (N := 8) Tryz.func113 rfl rfl (by simp) fun E hE => ?_
 refine aw_rnil (t := 0) rfl fun hnil => ?_
 refine WA ?_
 refine WA ?_
 refine aw_cond rfl (fun h => ?_) (fun h => ?_)
 ·obtain rfl : R = [] := hnil h
  refine WA ?_
  exact aret_of (us := [.c (.r (.slice none 0 0) [])]) [none] (fun _ => .o 0 0 0 0) (fun _ => [.arr 28 4 0 []]) (.tmp rfl .nil) (by decide) (ZNK rfl) (fun _ => .nil rfl) ZCH (fun _ => ⟨0, by simp, rfl, rfl⟩)
 ·refine ZZ ?_
  refine WR ?_
  refine al_ef rfl (Zapp (hE := KA (t := 58) rfl) (hsrc := .ro (fun r h => (hR r h).1) (fun r h => (hR r h).2))) ?_
  rintro _ _ ⟨_, cc, hcc, rfl, rfl⟩
  refine WE ?_
  exact aret_o [some 0] (fun _ => [.arr 28 4 cc R]) rfl rfl rfl (by simp) rfl (by decide) (ZNK rfl) ZCH (fun _ => ⟨cc, by omega, rfl, rfl⟩)
theorem okR_cR (l : List (Value × Cel)) : OkR 4 (cR l) := fun row h => by
 obtain ⟨q, _, rfl⟩ := List.mem_map.1 h
 refine ⟨rfl, fun u hu => ?_⟩
 simp only [List.mem_cons, List.not_mem_nil, or_false] at hu
 rcases hu with rfl | rfl | rfl | rfl <;> rfl
theorem okR_sR (l : List Spot) : OkR 2 (sR l) := fun row h => by
 obtain ⟨q, _, rfl⟩ := List.mem_map.1 h
 refine ⟨rfl, fun u hu => ?_⟩
 simp only [List.mem_cons, List.not_mem_nil, or_false] at hu
 rcases hu with rfl | rfl <;> rfl
theorem dupT_f : ∀ {L S : List Spot}, dupT false S L = false → L.Nodup ∧ ∀ p ∈ L, p ∉ S
 | [], _, _ => ⟨.nil, fun p h => (by cases h)⟩
 | p :: L, S, h => by
  rw [dupT] at h
  by_cases hp : p ∈ S
  ·rw [show (false || decide (p ∈ S)) = true by simp [hp], dupT_true] at h; cases h
  rw [show (false || decide (p ∈ S)) = false by simp [hp]] at h
  obtain ⟨h1, h2⟩ := dupT_f h
  refine ⟨List.nodup_cons.2 ⟨fun hm => h2 p hm (by simp), h1⟩, fun q hq => ?_⟩
  rcases List.mem_cons.1 hq with rfl | hq
  ·exact hp
  ·exact fun hs => h2 q hq (List.mem_append_left _ hs)
theorem dupT_perm {L M : List Spot} (h : L.Perm M) : dupT false [] L = dupT false [] M := by
 have key : ∀ {L M : List Spot}, L.Perm M → dupT false [] L = false → dupT false [] M = false := fun h e => dupT_nodup ((h.nodup_iff).1 (dupT_f e).1) (by simp)
 cases h1 : dupT false [] L with
 | false => exact (key h h1).symm
 | true =>
  cases h2 : dupT false [] M with
  | true => rfl
  | false => rw [key h.symm h2] at h1; cases h1
theorem flat_perm : ∀ {l : List Cel}, (∀ c ∈ l, RCel c) → (l.flatMap fun c => covG (grdOf c)).Perm (l.flatMap covL)
 | [], _ => .refl _
 | c :: l, h => by
  rw [List.flatMap_cons, List.flatMap_cons]
  have hc := h c List.mem_cons_self
  exact ((List.perm_ext_iff_of_nodup (covG_nodup (grdOf_len hc)) hitC_nodup).2 fun _ => grdOf_cov hc).append (flat_perm fun d hd => h d (List.mem_cons_of_mem _ hd))
theorem covL_le {c : Cel} (h : RCel c) : (covL c).length ≤ 40000 := by
 have h3 := h.h
 have h4 := h.w
 have := hitC_len (x := c.x.tdiv c.st) (M := 200) (rs := c.rows) (y := c.y.tdiv c.st) (fun r hr => by rw [(h.row r hr).1]; exact h4)
 have h5 : c.rows.length * 200 ≤ 200 * 200 := Nat.mul_le_mul_right _ h3
 unfold covL
 omega
theorem flatC_len : ∀ {l : List Cel}, (∀ c ∈ l, RCel c) → (l.flatMap covL).length ≤ l.length * 40000
 | [], _ => Nat.le_refl _
 | c :: l, h => by
  rw [List.flatMap_cons, List.length_append, List.length_cons]
  have h1 := covL_le (h c List.mem_cons_self)
  have h2 := flatC_len fun d hd => h d (List.mem_cons_of_mem _ hd)
  omega
set_option maxHeartbeats 8000000 in
theorem wholeof_v (f : Fil) (hn : f.lv.length ≤ 1000) (hr : ∀ q ∈ f.lv ++ [f.s, f.p], q.2.rows.length ≤ 1000000000 ∧ ∀ r ∈ q.2.rows, r.length ≤ 1000000000) : ACalls Tryz.prog 39 [.a ((filR f).map .c)] [] fun u H => ∃ v', u = .t [celA v' (wholeF ((f.lv ++ [f.s, f.p]).map Prod.snd)).1, .c (I (wholeF ((f.lv ++ [f.s, f.p]).map Prod.snd)).2)] ∧ H = [] := by
 obtain ⟨wv, lv, ⟨vs, s⟩, ⟨vp, p⟩⟩ := f
 simp only at hn hr
 refine acalls_of (N := 103) Tryz.func39 rfl rfl (by simp) fun E hE => ?_
 refine WA ?_
 have e0 : (cR lv).length = lv.length := by simp
 obtain ⟨all, hall⟩ : ∃ all, all = lv ++ [(vs, s), (vp, p)] := ⟨_, rfl⟩
 refine aw_cut (fun F H => ∃ vo, F = [(2, .p 0 0 0), (4, .c (.r vo (cR all)))] ∧ H = [celZ]) ?_ ?_ wk_aw
 ·refine ZZ ?_
  refine aw_regionM [[(0, none), (1, none), (3, none), (4, none), (5, none), (6, none), (2, some [3, 4, 5, 6]), (7, some [0, 1]), (8, some []), (9, none)], [(0, none), (1, none), (3, none), (4, none), (5, none), (6, none), (7, some [0, 1]), (2, some [3, 4, 5, 6]), (8, some []), (9, none)]] hMixed (by kernel_rfl) ?_
  focus
   refine WM ?_
   refine am_two (by rfl) (by rfl) (by rfl) ?_ ?_
   rotate_left
   refine WM ?_
   refine am_ef (i := 2) (by rfl) (by rfl) rfl rfl (ef_call0 false (fun _ => cloneC_a (cR lv) wv (okR_cR lv) (by rw [List.length_map]; omega)) rfl .fn rfl (by decide) (by kernel_rfl) rfl (fun _ => C0 rfl) (by simp)) ?_
   rintro _ _ ⟨_, _, _, ⟨cc0, hcc0, rfl, rfl⟩, hF, hH⟩
   (refine NSU hF hH ?_; clear hF hH; rintro rfl rfl)
   refine ⟨AGX, ?_⟩
   refine am_ef (i := 8) (by rfl) (by rfl) rfl rfl (Zapp (KA (t := 58) rfl)) ?_
   rintro _ _ ⟨_, cc, hcc, rfl, rfl⟩
   refine ⟨AGX, ?_⟩
   refine WN ?_
   rotate_right
   refine am_ef (i := 2) (by rfl) (by rfl) rfl rfl (ef_call0 false (fun _ => cloneC_a (cR lv) wv (okR_cR lv) (by rw [List.length_map]; omega)) rfl .fn rfl (by decide) (by kernel_rfl) rfl (fun _ => C0 rfl) (by simp)) ?_
   rintro _ _ ⟨_, _, _, ⟨cc0, hcc0, rfl, rfl⟩, hF, hH⟩
   (refine NSU hF hH ?_; clear hF hH; rintro rfl rfl)
   refine ⟨AGX, ?_⟩
   refine WM ?_
   refine am_ef (i := 8) (by rfl) (by rfl) rfl rfl (Zapp (KA (t := 58) rfl)) ?_
   rintro _ _ ⟨_, cc, hcc, rfl, rfl⟩
   refine ⟨AGX, ?_⟩
   refine WN ?_
  all_goals (first
   | exact wk_of [some 1] (fun g => [(2, .p 0 0 0), (4, .c (.r (g (.o 2 0 _ _)) (cR all)))]) (fun _ => [celZ]) (by decide) (ZNL hE) (fun _ => .cons rfl (.p rfl) (.cons rfl (.frz (b := 2) rfl rfl (by rw [List.drop_zero, List.take_of_length_le (by simp), hall]; simp) (by rw [hall]; simp) rfl) .nil)) ZCH (fun _ => ⟨_, rfl, rfl⟩)
   | exact wk_of [some 1] (fun g => [(2, .p 0 0 0), (4, .c (.r (g (.o 3 0 _ _)) (cR all)))]) (fun _ => [celZ]) (by decide) (ZNL hE) (fun _ => .cons rfl (.p rfl) (.cons rfl (.frz (b := 3) rfl rfl (by rw [List.drop_zero, List.take_of_length_le (by simp), hall]; simp) (by rw [hall]; simp) rfl) .nil)) ZCH (fun _ => ⟨_, rfl, rfl⟩))
 rintro F H ⟨vo, rfl, rfl⟩
 refine ZZ ?_
 have hal : all.map Prod.snd = (lv ++ [(vs, s), (vp, p)]).map Prod.snd := by rw [hall]
 have hlen : all.length = lv.length + 2 := by rw [hall]; simp
 have hra : ∀ q ∈ all, q.2.rows.length ≤ 1000000000 ∧ ∀ r ∈ q.2.rows, r.length ≤ 1000000000 := by rw [hall]; exact hr
 rw [← hal]
 clear hr hal
 have hl1 : all.length ≤ 1002 := by omega
 have e1 : (cR all).length = all.length := by simp
 refine WA ?_
 refine aw_loopw (fun m F H => ∃ k : Nat, m + k = all.length ∧ fstF ((all.map Prod.snd).drop k) = fstF (all.map Prod.snd) ∧ F = [(2, .p 0 0 0), (4, .c (.r vo (cR all))), (27, .c (.r vo (cR all))), (28, .c (I (cR all).length)), (29, .c (I k))] ∧ H = [celZ]) ?_ ?_
 ·refine wk_of [some 0] (fun _ => [(2, .p 0 0 0), (4, .c (.r vo (cR all))), (27, .c (.r vo (cR all))), (28, .c (I (cR all).length)), (29, .c (I (0 : Nat)))]) (fun _ => [celZ]) (by decide) (ZNL hE) ZCF ZCH (fun _ => ?_)
  exact ⟨all.length, 0, by omega, rfl, rfl, rfl⟩
 rintro m F H ⟨k, hk, hfst, rfl, rfl⟩
 refine WA ?_
 refine aw_if rfl (fun hlt => ?_) (fun hge => ?_)
 ·obtain ⟨⟨w, c⟩, hz⟩ : ∃ e, all[k]? = some e := ⟨_, List.getElem?_eq_getElem (by omega)⟩
  have hrow : (cR all)[k]? = some (celR w c) := by rw [List.getElem?_map, hz]; rfl
  have hzc : (all.map Prod.snd)[k]? = some c := by rw [List.getElem?_map, hz]; rfl
  obtain ⟨hcl, hcr⟩ := hra _ (List.mem_of_getElem? hz)
  have hd := fstF_drop hzc
  refine WA ?_
  refine WR ?_
  refine al_ef rfl (ef_call0 false (fun _ => rcheck_v w c hcl hcr) rfl .fn rfl (by decide) (by kernel_rfl) rfl (fun _ => C0 rfl) (by simp)) ?_
  rintro _ _ ⟨_, _, _, ⟨rfl, rfl⟩, hF, hH⟩
  (refine NST hF hH ?_; clear hF hH; rintro rfl rfl)
  refine WE ?_
  generalize hq : celF c = q at *
  refine WA ?_
  refine aw_if rfl (fun hq0 => ?_) (fun hq0 => ?_)
  ·rw [if_pos (by omega)] at hd
   have hwf : wholeF (all.map Prod.snd) = (zc, q) := by
    rw [hd] at hfst
    unfold wholeF
    rw [← hfst, if_pos (by omega)]
   refine WA ?_
   exact aret_of (us := [.a [.c (I 0), .c (I 0), .c (I 0), .c (.r (.slice none 0 0) [])], .c (I (q))]) [] (fun g' => .t [.a [.c (I 0), .c (I 0), .c (I 0), .c (.r (.slice none 0 0) [])], .c (I (q))]) (fun _ => []) (.cella (n := 4) rfl (by kernel_rfl) (Cells.box rfl) (by simp) (by (try simp only [nm, putL, Nat.reduceAdd, cellsOf, cvOf]) <;> rfl) (.tmp rfl .nil)) (by decide) (fun i hi => absurd hi (Nat.not_lt_zero i)) (fun g' => .tL (.cons (.aL (.cons (.c rfl) (.cons (.c rfl) (.cons (.c rfl) (.cons (.c rfl) .nil))))) (.cons (.c rfl) .nil))) (fun _ => .nil) (fun g' => ⟨.slice none 0 0, by rw [hwf]; rfl, rfl⟩)
  ·rw [if_neg (by omega)] at hd
   refine ZZ ?_
   refine WA ?_
   refine wk_of [some 0] (fun _ => [(2, .p 0 0 0), (4, .c (.r vo (cR all))), (27, .c (.r vo (cR all))), (28, .c (I (cR all).length)), (29, .c (I (k + 1 : Nat)))]) (fun _ => [celZ]) (by decide) (ZNL hE) ZCF ZCH (fun _ => ?_)
   exact ⟨m - 1, by omega, k + 1, by omega, by rw [← hd, hfst], rfl, rfl⟩
 obtain rfl : k = all.length := by omega
 rw [List.drop_eq_nil_of_le (by simp)] at hfst
 have hf0 : fstF (all.map Prod.snd) = 0 := hfst.symm
 have hrc : ∀ q ∈ all, RCel q.2 := fun q hq => fstF_0 hf0 _ (List.mem_map_of_mem hq)
 have hrcs : ∀ c ∈ all.map Prod.snd, RCel c := fun c hc => fstF_0 hf0 _ hc
 clear hfst hra
 obtain ⟨v0, c0, rest, hcons⟩ : ∃ v0 c0 rest, all = (v0, c0) :: rest := by
  cases hh : all with
  | nil => rw [hh] at hlen; simp at hlen
  | cons a l => exact ⟨a.1, a.2, l, rfl⟩
 have hhd : (all.map Prod.snd).headD zc = c0 := by rw [hcons]; rfl
 refine ZZ ?_
 refine WA ?_
 refine WA ?_
 refine aw_loopw (fun m F H => ∃ (k cp : Nat), m + k = all.length ∧ (∀ q ∈ all.take k, q.2.st = c0.st) ∧ F = [(2, .p 0 0 0), (4, .c (.r vo (cR all))), (8, .o 1 0 (sR (((all.map Prod.snd).take k).flatMap covL)).length cp), (40, .c (.r vo (cR all))), (41, .c (I (cR all).length)), (42, .c (I k))] ∧ H = [celZ, .arr 151 2 cp (sR (((all.map Prod.snd).take k).flatMap covL))]) ?_ ?_
 ·refine wk_of [some 0, none] (fun _ => [(2, .p 0 0 0), (4, .c (.r vo (cR all))), (8, .o 1 0 0 0), (40, .c (.r vo (cR all))), (41, .c (I (cR all).length)), (42, .c (I (0 : Nat)))]) (fun _ => [celZ, .arr 151 2 0 []]) (by decide) (ZNL hE) ZCF ZCH (fun _ => ?_)
  exact ⟨all.length, 0, 0, by omega, (fun q h => by rw [List.take_zero] at h; cases h), rfl, rfl⟩
 rintro m F H ⟨k, cp, hk, hst, rfl, rfl⟩
 refine WA ?_
 refine aw_if rfl (fun hlt => ?_) (fun hge => ?_)
 ·obtain ⟨⟨w, c⟩, hz⟩ : ∃ e, all[k]? = some e := ⟨_, List.getElem?_eq_getElem (by omega)⟩
  have hrow : (cR all)[k]? = some (celR w c) := by rw [List.getElem?_map, hz]; rfl
  have hzc : (all.map Prod.snd)[k]? = some c := by rw [List.getElem?_map, hz]; rfl
  have hc : RCel c := hrc _ (List.mem_of_getElem? hz)
  have htk : (all.map Prod.snd).take (k + 1) = (all.map Prod.snd).take k ++ [c] := by rw [List.take_add_one, hzc]; rfl
  have hfm : ((all.map Prod.snd).take (k + 1)).flatMap covL = ((all.map Prod.snd).take k).flatMap covL ++ covL c := by rw [htk, List.flatMap_append]; simp
  have hsf : sR (((all.map Prod.snd).take (k + 1)).flatMap covL) = sR (((all.map Prod.snd).take k).flatMap covL) ++ sR (covL c) := by rw [hfm]; exact List.map_append
  have hft : (((all.map Prod.snd).take k).flatMap covL).length ≤ 1000000000 := by
   have h1 := flatC_len (l := (all.map Prod.snd).take k) fun d hd => hrcs d (List.mem_of_mem_take hd)
   rw [List.length_take, List.length_map] at h1
   omega
  have hcl2 := covL_le hc
  have e5 : (sR (((all.map Prod.snd).take k).flatMap covL)).length = (((all.map Prod.snd).take k).flatMap covL).length := by simp
  have e6 : (sR (covL c)).length = (covL c).length := by simp
  have hst2 : (k = 0 ∨ c.st = c0.st) → ∀ q ∈ all.take (k + 1), q.2.st = c0.st := fun h q hq => by
   rw [List.take_add_one, hz, List.mem_append] at hq
   rcases hq with hq | hq
   ·exact hst q hq
   ·have : q = (w, c) := by simpa using hq
    subst this
    rcases h with h | h
    ·subst h
     rw [hcons] at hz
     simp only [List.getElem?_cons_zero, Option.some.injEq, Prod.mk.injEq] at hz
     rw [← hz.2]
    ·exact h
  refine WA ?_
  by_cases hk0 : k = 0
  ·have hs2 := hst2 (.inl hk0)
   have hkz : ¬ (0 : Int) < (k : Int) := by omega
   refine ZZ ?_
   refine aw_regionT [(0, none), (1, none), (2, none), (3, none), (4, none), (5, none), (6, none), (7, none), (8, none), (9, none), (10, none), (11, none), (12, none)] hMixed (by kernel_rfl) ?_
   refine WQ ?_
   refine aw_cond_f rfl ?_
   refine ZZ ?_
   refine WR ?_
   refine al_ef rfl (ef_call0 false (fun _ => places_r w c hc) rfl .fn rfl (by decide) (by kernel_rfl) rfl (fun _ => C0 rfl) (by simp)) ?_
   rintro _ _ ⟨_, _, _, ⟨vq, rfl, rfl⟩, hF, hH⟩
   (refine NST hF hH ?_; clear hF hH; rintro rfl rfl)
   refine al_ef rfl (Zapp (hE := KA (t := 155) rfl) (hsrc := .ro (fun r h => (okR_sR _ r h).1) (fun r h => (okR_sR _ r h).2))) ?_
   rintro _ _ ⟨_, cc, hcc, rfl, rfl⟩
   refine WE ?_
   refine WA ?_
   refine wk_of [some 0, some 1] (fun _ => [(2, .p 0 0 0), (4, .c (.r vo (cR all))), (8, .o 1 0 (sR (((all.map Prod.snd).take (k + 1)).flatMap covL)).length cc), (40, .c (.r vo (cR all))), (41, .c (I (cR all).length)), (42, .c (I (k + 1 : Nat)))]) (fun _ => [celZ, .arr 151 2 cc (sR (((all.map Prod.snd).take (k + 1)).flatMap covL))]) (by decide) (ZNL hE) (by rw [hsf]; exact ZCF) (by rw [hsf]; exact ZCH) (fun _ => ?_)
   exact ⟨m - 1, by omega, k + 1, cc, by omega, hs2, rfl, rfl⟩
  ·obtain ⟨⟨wp, cp0⟩, hzp⟩ : ∃ e, all[k - 1]? = some e := ⟨_, List.getElem?_eq_getElem (by omega)⟩
   have hrowp : (cR all)[k - 1]? = some (celR wp cp0) := by rw [List.getElem?_map, hzp]; rfl
   have hkp : (0 : Int) < (k : Int) := by omega
   have hpst : cp0.st = c0.st := by
    have h1 : (wp, cp0) ∈ all.take k := by
     refine List.mem_of_getElem? (i := k - 1) ?_
     rw [List.getElem?_take_of_lt (by omega), hzp]
    exact hst _ h1
   refine ZZ ?_
   refine aw_regionT [(0, none), (1, none), (2, none), (3, none), (4, none), (5, none), (6, none), (7, none), (8, none), (9, none), (10, none), (11, none), (12, none)] hMixed (by kernel_rfl) ?_
   iterate 8 refine WX2 ?_
   first | refine ZU rfl (rd_indexq (i := k - 1) rfl (KE (t := 58) rfl) rfl rfl (by omega) hrowp rfl) ?_ | refine ZV ?_
   refine WQ ?_
   refine aw_cond rfl (fun hb => ?_) (fun hb => ?_)
   ·have hne : c.st ≠ c0.st := by rw [← hpst]; simpa using hb
    have hsb : sameB (all.map Prod.snd) = false := by
     rw [← Bool.not_eq_true]
     intro h
     have := sameB_t h c (List.mem_of_getElem? hzc)
     rw [show (all.map Prod.snd).headD ⟨0, 0, 0, []⟩ = c0 from hhd] at this
     exact hne this
    have hwf : wholeF (all.map Prod.snd) = (zc, 3) := by
     unfold wholeF
     rw [if_neg (by omega), if_pos hsb]
    refine WA ?_
    exact aret_of (us := [.a [.c (I 0), .c (I 0), .c (I 0), .c (.r (.slice none 0 0) [])], .c (I (3))]) [] (fun g' => .t [.a [.c (I 0), .c (I 0), .c (I 0), .c (.r (.slice none 0 0) [])], .c (I (3))]) (fun _ => []) (.cella (n := 4) rfl (by kernel_rfl) (Cells.box rfl) (by simp) (by (try simp only [nm, putL, Nat.reduceAdd, cellsOf, cvOf]) <;> rfl) (.tmp rfl .nil)) (by decide) (fun i hi => absurd hi (Nat.not_lt_zero i)) (fun g' => .tL (.cons (.aL (.cons (.c rfl) (.cons (.c rfl) (.cons (.c rfl) (.cons (.c rfl) .nil))))) (.cons (.c rfl) .nil))) (fun _ => .nil) (fun g' => ⟨.slice none 0 0, by rw [hwf]; rfl, rfl⟩)
   ·have hs2 := hst2 (.inr (by rw [← hpst]; simpa using hb))
    refine ZZ ?_
    refine WR ?_
    refine al_ef rfl (ef_call0 false (fun _ => places_r w c hc) rfl .fn rfl (by decide) (by kernel_rfl) rfl (fun _ => C0 rfl) (by simp)) ?_
    rintro _ _ ⟨_, _, _, ⟨vq, rfl, rfl⟩, hF, hH⟩
    (refine NST hF hH ?_; clear hF hH; rintro rfl rfl)
    refine al_ef rfl (Zapp (hE := KA (t := 155) rfl) (hsrc := .ro (fun r h => (okR_sR _ r h).1) (fun r h => (okR_sR _ r h).2))) ?_
    rintro _ _ ⟨_, cc, hcc, rfl, rfl⟩
    refine WE ?_
    refine WA ?_
    refine wk_of [some 0, some 1] (fun _ => [(2, .p 0 0 0), (4, .c (.r vo (cR all))), (8, .o 1 0 (sR (((all.map Prod.snd).take (k + 1)).flatMap covL)).length cc), (40, .c (.r vo (cR all))), (41, .c (I (cR all).length)), (42, .c (I (k + 1 : Nat)))]) (fun _ => [celZ, .arr 151 2 cc (sR (((all.map Prod.snd).take (k + 1)).flatMap covL))]) (by decide) (ZNL hE) (by rw [hsf]; exact ZCF) (by rw [hsf]; exact ZCH) (fun _ => ?_)
    exact ⟨m - 1, by omega, k + 1, cc, by omega, hs2, rfl, rfl⟩
 obtain rfl : k = all.length := by omega
 rw [List.take_of_length_le (Nat.le_refl _)] at hst
 rw [List.take_of_length_le (by simp)]
 have hsb : sameB (all.map Prod.snd) = true := by
  unfold sameB
  rw [Bool.not_eq_true', ← Bool.not_eq_true, List.any_eq_true]
  rintro ⟨c, hc, hn⟩
  rw [show (all.map Prod.snd).headD ⟨0, 0, 0, []⟩ = c0 from hhd] at hn
  obtain ⟨q, hq, rfl⟩ := List.mem_map.1 hc
  simp [hst q hq] at hn
 have hdup : wholeF (all.map Prod.snd) = if dupT false [] ((all.map Prod.snd).flatMap covL) = true then (zc, 13) else foldU ((all.map Prod.snd).headD zc) (all.map Prod.snd).tail := by
  unfold wholeF
  rw [if_neg (by omega), if_neg (by rw [hsb]; simp), dupT_perm (flat_perm hrcs)]
 have hLl : ((all.map Prod.snd).flatMap covL).length ≤ 100000000 := by
  have h1 := flatC_len hrcs
  rw [List.length_map] at h1
  omega
 generalize (all.map Prod.snd).flatMap covL = L at *
 refine ZZ ?_
 refine aw_wk (wk_of (K := fun F H => ∃ vq, F = [(2, .p 0 0 0), (4, .c (.r vo (cR all))), (8, .c (.r vq (sR L)))] ∧ H = [celZ]) [some 0] (fun g => [(2, .p 0 0 0), (4, .c (.r vo (cR all))), (8, .c (.r (g (.o 1 0 _ _)) (sR L)))]) (fun _ => [celZ]) (by decide) (ZNL hE) (fun _ => .cons rfl (.p rfl) (.cons rfl (.c rfl) (.cons rfl (.frz (b := 1) rfl rfl (by rw [List.drop_zero, List.take_of_length_le (by simp)]) (by simp) rfl) .nil))) ZCH (fun _ => ⟨_, rfl, rfl⟩)) ?_
 rintro F H ⟨vq, rfl, rfl⟩
 have e3 : (sR L).length = L.length := by simp
 refine WA ?_
 refine aw_loopw (fun m F H => ∃ (k : Nat), m + k = L.length ∧ dupT false [] (L.take k) = false ∧ F = [(2, .p 0 0 0), (4, .c (.r vo (cR all))), (8, .c (.r vq (sR L))), (66, .c (.r vq (sR L))), (67, .c (I (sR L).length)), (68, .c (I k))] ∧ H = [celZ]) ?_ ?_
 ·refine wk_of [some 0] (fun _ => [(2, .p 0 0 0), (4, .c (.r vo (cR all))), (8, .c (.r vq (sR L))), (66, .c (.r vq (sR L))), (67, .c (I (sR L).length)), (68, .c (I (0 : Nat)))]) (fun _ => [celZ]) (by decide) (ZNL hE) ZCF ZCH (fun _ => ?_)
  exact ⟨L.length, 0, by omega, by rw [List.take_zero]; rfl, rfl, rfl⟩
 rintro m F H ⟨k, hk, hnd, rfl, rfl⟩
 refine WA ?_
 refine aw_if rfl (fun hlt => ?_) (fun hge => ?_)
 ·obtain ⟨⟨px, py⟩, hz⟩ : ∃ e, L[k]? = some e := ⟨_, List.getElem?_eq_getElem (by omega)⟩
  have hrow : (sR L)[k]? = some [I px, I py] := by rw [List.getElem?_map, hz]; rfl
  have hsl : ((sR L).take k).drop 0 = sR (L.take k) := by rw [List.drop_zero]; exact List.map_take.symm
  have hdn : dupT false [] (L.take (k + 1)) = decide ((px, py) ∈ L.take k) := by
   rw [List.take_add_one, hz]
   exact (dupT_snoc (L := L.take k) (S := []) (p := (px, py))).trans (by rw [hnd, List.nil_append, Bool.false_or])
  obtain ⟨bx, hbx⟩ : ∃ b, decide ((px, py) ∈ L.take k) = b := ⟨_, rfl⟩
  rw [hbx] at hdn
  refine WA ?_
  refine ZZ ?_
  refine aw_regionT [(0, none), (1, none), (2, none), (3, none), (4, some [])] hMixed (by kernel_rfl) ?_
  iterate 2 refine WX2 ?_
  refine ZT rfl (rd_slicerq (l := 0) (h := k) (rows' := sR (L.take k)) hsl rfl (KE (t := 155) rfl) rfl (fun r h => (okR_sR _ r h).1) (.inl ⟨rfl, rfl⟩) (.inr ⟨_, _, _, rfl, rfl, rfl⟩) (by omega) (by omega)) ?_
  refine WP ?_
  refine at_ef rfl rfl (ef_call0 false (fun _ => haspl_v px py (L.take k) (subV vq 0 k 2) (by rw [List.length_take]; omega)) rfl .fn rfl (by decide) (by kernel_rfl) rfl (fun _ => C0 rfl) (by simp)) ?_
  rintro _ _ ⟨_, _, _, ⟨rfl, rfl⟩, hF, hH⟩
  rw [hbx] at hF
  (refine NST hF hH ?_; clear hF hH; rintro rfl rfl)
  refine ⟨ag_none, ?_⟩
  refine WQ ?_
  cases bx with
  | true =>
   refine aw_cond_t rfl ?_
   have hdt : dupT false [] L = true := by
    have e : L = L.take (k + 1) ++ L.drop (k + 1) := (List.take_append_drop _ _).symm
    rw [e, dupT_app, hdn, dupT_true]
   have hwf : wholeF (all.map Prod.snd) = (zc, 13) := by rw [hdup, if_pos hdt]
   refine WA ?_
   exact aret_of (us := [.a [.c (I 0), .c (I 0), .c (I 0), .c (.r (.slice none 0 0) [])], .c (I (13))]) [] (fun g' => .t [.a [.c (I 0), .c (I 0), .c (I 0), .c (.r (.slice none 0 0) [])], .c (I (13))]) (fun _ => []) (.cella (n := 4) rfl (by kernel_rfl) (Cells.box rfl) (by simp) (by (try simp only [nm, putL, Nat.reduceAdd, cellsOf, cvOf]) <;> rfl) (.tmp rfl .nil)) (by decide) (fun i hi => absurd hi (Nat.not_lt_zero i)) (fun g' => .tL (.cons (.aL (.cons (.c rfl) (.cons (.c rfl) (.cons (.c rfl) (.cons (.c rfl) .nil))))) (.cons (.c rfl) .nil))) (fun _ => .nil) (fun g' => ⟨.slice none 0 0, by rw [hwf]; rfl, rfl⟩)
  | false =>
   refine aw_cond_f rfl ?_
   refine ZZ ?_
   refine WA ?_
   refine wk_of [some 0] (fun _ => [(2, .p 0 0 0), (4, .c (.r vo (cR all))), (8, .c (.r vq (sR L))), (66, .c (.r vq (sR L))), (67, .c (I (sR L).length)), (68, .c (I (k + 1 : Nat)))]) (fun _ => [celZ]) (by decide) (ZNL hE) ZCF ZCH (fun _ => ?_)
   exact ⟨m - 1, by omega, k + 1, by omega, hdn, rfl, rfl⟩
 obtain rfl : k = L.length := by omega
 rw [List.take_length] at hnd
 rw [hnd, if_neg (by simp)] at hdup
 rw [hdup]
 refine ZZ ?_
 have hrow0 : (cR all)[0]? = some (celR v0 c0) := by rw [hcons]; rfl
 have hsl : ((cR all).take (cR all).length).drop 1 = cR rest := by rw [List.take_length, hcons]; rfl
 have hall4 : ∀ row ∈ cR all, row.length = 4 := fun row h => (okR_cR _ row h).1
 have hrl : rest.length ≤ 1002 := by rw [hcons] at hl1; simp at hl1; omega
 have e2 : (cR rest).length = rest.length := by simp
 have hrr : ∀ q ∈ rest, RCel q.2 := fun q hq => hrc _ (by rw [hcons]; exact List.mem_cons_of_mem _ hq)
 have hr0 : RCel c0 := hrc (v0, c0) (by rw [hcons]; exact List.mem_cons_self)
 have hge1 : 1 ≤ (cR all).length := by omega
 have htl : (all.map Prod.snd).tail = rest.map Prod.snd := by rw [hcons]; rfl
 rw [hhd, htl]
 refine WA ?_
 refine ZR ?_
 refine WX1 ?_
 refine ZA (rd_slicerq (l := 1) (h := (cR all).length) (rows' := cR rest) hsl rfl (KE (t := 58) rfl) rfl hall4 (.inr ⟨_, _, _, rfl, rfl, rfl⟩) (.inl ⟨rfl, rfl⟩) (by omega) (Nat.le_refl _)) ?_
 refine WE ?_
 generalize subV vo 1 (cR all).length 4 = v2
 refine aw_loopw (fun m F H => ∃ (k : Nat) (v1 : Value) (o : Cel), m + k = rest.length ∧ RCel o ∧ foldU o ((rest.map Prod.snd).drop k) = foldU c0 (rest.map Prod.snd) ∧ F = [(2, .p 0 0 0), (13, .p 1 0 0), (84, .c (.r v2 (cR rest))), (85, .c (I (cR rest).length)), (86, .c (I k))] ∧ H = [celZ, celB v1 o]) ?_ ?_
 ·refine wk_of [some 0, some 1] (fun _ => [(2, .p 0 0 0), (13, .p 1 0 0), (84, .c (.r v2 (cR rest))), (85, .c (I (cR rest).length)), (86, .c (I (0 : Nat)))]) (fun _ => [celZ, celB v0 c0]) (by decide) (ZNL hE) ZCF ZCH (fun _ => ?_)
  exact ⟨rest.length, 0, v0, c0, by omega, hr0, rfl, rfl, rfl⟩
 rintro m F H ⟨k, v1, o, hk, ho, hfo, rfl, rfl⟩
 refine WA ?_
 refine aw_if rfl (fun hlt => ?_) (fun hge => ?_)
 ·obtain ⟨⟨w, c⟩, hz⟩ : ∃ e, rest[k]? = some e := ⟨_, List.getElem?_eq_getElem (by omega)⟩
  have hrow : (cR rest)[k]? = some (celR w c) := by rw [List.getElem?_map, hz]; rfl
  have hzc : (rest.map Prod.snd)[k]? = some c := by rw [List.getElem?_map, hz]; rfl
  have hc := hrr _ (List.mem_of_getElem? hz)
  simp only at hc
  have hd := foldU_drop (o := o) hzc
  have hn2 := normC_2 (L := covL o ++ covL c) ho.st
  obtain ⟨R, hR⟩ : ∃ R, normC o.st (covL o ++ covL c) = R := ⟨_, rfl⟩
  rw [hR] at hd hn2
  obtain ⟨u, e⟩ := R
  simp only at hd hn2
  refine WA ?_
  refine WR ?_
  refine al_ef rfl (ef_call0 false (fun _ => combined_v v1 w o c ho hc) rfl .fn rfl (by decide) (by kernel_rfl) rfl (fun _ => C0 rfl) (by simp)) ?_
  rintro _ _ ⟨_, _, _, ⟨vu, rfl, rfl⟩, hF, hH⟩
  rw [hR] at hF
  (refine NST hF hH ?_; clear hF hH; rintro rfl rfl)
  refine WE ?_
  refine WA ?_
  refine aw_if rfl (fun he0 => ?_) (fun he0 => ?_)
  ·have hwf : foldU c0 (rest.map Prod.snd) = (zc, e) := by rw [← hfo, hd, if_pos (by omega)]
   refine WA ?_
   exact aret_of (us := [.a [.c (I 0), .c (I 0), .c (I 0), .c (.r (.slice none 0 0) [])], .c (I (e))]) [] (fun g' => .t [.a [.c (I 0), .c (I 0), .c (I 0), .c (.r (.slice none 0 0) [])], .c (I (e))]) (fun _ => []) (.cella (n := 4) rfl (by kernel_rfl) (Cells.box rfl) (by simp) (by (try simp only [nm, putL, Nat.reduceAdd, cellsOf, cvOf]) <;> rfl) (.tmp rfl .nil)) (by decide) (fun i hi => absurd hi (Nat.not_lt_zero i)) (fun g' => .tL (.cons (.aL (.cons (.c rfl) (.cons (.c rfl) (.cons (.c rfl) (.cons (.c rfl) .nil))))) (.cons (.c rfl) .nil))) (fun _ => .nil) (fun g' => ⟨.slice none 0 0, by rw [hwf]; rfl, rfl⟩)
  ·have he1 : e = 0 := by omega
   obtain ⟨hu, hus⟩ := hn2 he1
   refine ZZ ?_
   refine WA ?_
   refine WA ?_
   refine wk_of [some 0, some 1] (fun _ => [(2, .p 0 0 0), (13, .p 1 0 0), (84, .c (.r v2 (cR rest))), (85, .c (I (cR rest).length)), (86, .c (I (k + 1 : Nat)))]) (fun _ => [celZ, celB vu u]) (by decide) (ZNL hE) ZCF ZCH (fun _ => ?_)
   exact ⟨m - 1, by omega, k + 1, vu, u, by omega, hu, by rw [← hfo, hd, if_neg (by omega)], rfl, rfl⟩
 obtain rfl : k = rest.length := by omega
 rw [List.drop_eq_nil_of_le (by simp)] at hfo
 have hfo2 : foldU c0 (rest.map Prod.snd) = (o, 0) := hfo.symm
 rw [hfo2]
 refine ZZ ?_
 refine WA ?_
 exact aret_of (us := [celA v1 o, .c (I 0)]) [] (fun _ => .t [celA v1 o, .c (I 0)]) (fun _ => []) (.cella (n := 4) rfl (by kernel_rfl) (Cells.box rfl) (by simp) (by (try simp only [nm, putL, Nat.reduceAdd, cellsOf, cvOf]) <;> rfl) (.tmp rfl .nil)) (by decide) (fun i hi => absurd hi (Nat.not_lt_zero i)) (fun g' => .tL (.cons (.aL (.cons (.c rfl) (.cons (.c rfl) (.cons (.c rfl) (.cons (.c rfl) .nil))))) (.cons (.c rfl) .nil))) (fun _ => .nil) (fun g' => ⟨v1, rfl, rfl⟩)
end Go.Proofs.YtniolldgidgffaaGreatDoor

/- Lines in the document's form and of a grid are alike: plain. -/
namespace Go.Proofs.YtniolldgidgffaaGreatDoor
theorem rE_eq {f : Int → Bool} {x : Int} (hx : ∀ j, x ≤ j → f j = false) : ∀ {n m : Nat} {c : Int}, x ≤ c + n + 1 → x ≤ c + m + 1 → rE f n c = rE f m c
 | 0, 0, _, _, _ => rfl
 | 0, m + 1, c, h, _ => by rw [rE, rE, if_neg (by rw [hx (c + 1) (by omega)]; simp)]
 | n + 1, 0, c, _, h => by rw [rE, rE, if_neg (by rw [hx (c + 1) (by omega)]; simp)]
 | n + 1, m + 1, c, h1, h2 => by
  rw [rE, rE]
  split
  ·exact rE_eq hx (by omega) (by omega)
  ·rfl
theorem lnC_mem {f : Int → Bool} {r c0 : Int} {W n : Nat} {t : Lin} : t ∈ lnC f r c0 W n ↔ ∃ k : Nat, k < n ∧ f (c0 + (k : Nat)) = true ∧ f (c0 + (k : Nat) - 1) = false ∧ t = (r, c0 + (k : Nat), rE f (W - 1 - k) (c0 + (k : Nat))) := by
 unfold lnC
 simp only [List.mem_map, List.mem_filter, List.mem_range, Bool.and_eq_true, Bool.not_eq_true']
 constructor
 ·rintro ⟨k, ⟨h1, h2, h3⟩, rfl⟩
  exact ⟨k, h1, h2, h3, rfl⟩
 ·rintro ⟨k, h1, h2, h3, rfl⟩
  exact ⟨k, ⟨h1, h2, h3⟩, rfl⟩
theorem lnS_mem {f : Int → Int → Bool} {y x : Int} {W : Nat} {ev ph : Int} {n : Nat} {t : Lin} : t ∈ lnS f y x W ev ph n ↔ ∃ i : Nat, i < n ∧ ((y + (i : Nat)) - ph).tmod ev = 0 ∧ t ∈ lnC (f (y + (i : Nat))) (y + (i : Nat)) x W W := by
 unfold lnS
 simp only [List.mem_flatMap, List.mem_range]
 constructor
 ·rintro ⟨i, h1, h2⟩
  split at h2
  ·cases h2
  ·rename_i h3
   exact ⟨i, h1, Classical.not_not.1 h3, h2⟩
 ·rintro ⟨i, h1, h2, h3⟩
  exact ⟨i, h1, by rw [if_neg (by simpa using h2)]; exact h3⟩
def ltL (a b : Lin) : Prop := a.1 < b.1 ∨ (a.1 = b.1 ∧ a.2.1 < b.2.1)
def leL (a b : Lin) : Prop := a.1 < b.1 ∨ (a.1 = b.1 ∧ a.2.1 ≤ b.2.1)
theorem lnC_sorted {f : Int → Bool} {r c0 : Int} {W n : Nat} : (lnC f r c0 W n).Pairwise ltL := by
 unfold lnC
 rw [List.pairwise_map]
 refine List.Pairwise.sublist List.filter_sublist ?_
 refine List.Pairwise.imp ?_ List.pairwise_lt_range
 intro a b h
 right
 exact ⟨rfl, by simp only; omega⟩
theorem lnC_row {f : Int → Bool} {r c0 : Int} {W n : Nat} {t : Lin} (h : t ∈ lnC f r c0 W n) : t.1 = r := by
 obtain ⟨k, _, _, _, rfl⟩ := lnC_mem.1 h
 rfl
theorem lnS_sorted {f : Int → Int → Bool} {y x : Int} {W : Nat} {ev ph : Int} : ∀ {n : Nat}, (lnS f y x W ev ph n).Pairwise ltL
 | 0 => by simp [lnS]
 | n + 1 => by
  rw [lnS_succ, List.pairwise_append]
  refine ⟨lnS_sorted, ?_, ?_⟩
  ·split
   ·exact .nil
   ·exact lnC_sorted
  ·intro a ha b hb
   split at hb
   ·cases hb
   obtain ⟨i, h1, _, h2⟩ := lnS_mem.1 ha
   have e1 := lnC_row h2
   have e2 := lnC_row hb
   left
   omega
theorem ltL_irr {a : Lin} : ¬ ltL a a := fun h => by unfold ltL at h; omega
theorem ltL_nodup {l : List Lin} (h : l.Pairwise ltL) : l.Nodup := List.Pairwise.imp (fun {a b} h e => by subst e; exact ltL_irr h) h
def trQ (q : Int) (p : Spot) : Spot := if q = 1 then (p.2, p.1) else p
theorem trQ_tr {q : Int} {p : Spot} : trQ q (trQ q p) = p := by unfold trQ; split <;> rfl
theorem atQ_iff {g : Grd} (hl : g.on.length = g.w * g.h) {q r c : Int} : atQ g q r c = true ↔ trQ q (c, r) ∈ covG g := by
 unfold atQ trQ
 split
 ·exact atG_iff hl
 ·exact atG_iff hl
abbrev hasL (L : List Spot) (r c : Int) : Bool := decide ((c, r) ∈ L)
def begL (L : List Spot) (ev ph : Int) (p : Spot) : Bool := decide ((p.2 - ph).tmod ev = 0) && !hasL L p.2 (p.1 - 1)
def linL (A L : List Spot) (ev ph : Int) : List Lin := (L.filter (begL A ev ph)).map fun p => (p.2, p.1, rE (hasL A p.2) 1000 p.1)
theorem linL_mem {A L : List Spot} {ev ph : Int} {t : Lin} : t ∈ linL A L ev ph ↔ ∃ p ∈ L, begL A ev ph p = true ∧ t = (p.2, p.1, rE (hasL A p.2) 1000 p.1) := by
 unfold linL
 simp only [List.mem_map, List.mem_filter]
 constructor
 ·rintro ⟨p, ⟨h1, h2⟩, rfl⟩; exact ⟨p, h1, h2, rfl⟩
 ·rintro ⟨p, h1, h2, rfl⟩; exact ⟨p, ⟨h1, h2⟩, rfl⟩
theorem linL_nodup {A L : List Spot} {ev ph : Int} (h : L.Nodup) : (linL A L ev ph).Nodup := by
 unfold linL
 rw [List.nodup_iff_pairwise_ne, List.pairwise_map]
 refine List.Pairwise.imp ?_ (h.filter _)
 intro a b hab e
 obtain ⟨e1, e2⟩ := Prod.mk.inj e
 obtain ⟨e2, _⟩ := Prod.mk.inj e2
 exact hab (Prod.ext e2 e1)
theorem linL_snoc {A L : List Spot} {ev ph : Int} {p : Spot} : linL A (L ++ [p]) ev ph = linL A L ev ph ++ (if begL A ev ph p = true then [(p.2, p.1, rE (hasL A p.2) 1000 p.1)] else []) := by
 unfold linL
 rw [List.filter_append, List.map_append]
 congr 1
 simp only [List.filter_cons, List.filter_nil]
 split <;> rfl
theorem linG_mem {g : Grd} (hl : g.on.length = g.w * g.h) {q : Int} (hw : wQ g q ≤ 999) {L : List Spot} {ev ph : Int} (hL : ∀ p, p ∈ L ↔ trQ q p ∈ covG g) {t : Lin} : t ∈ linG g q ev ph ↔ t ∈ linL L L ev ph := by
 have hat : ∀ r c, atQ g q r c = hasL L r c := fun r c => by
  rw [Bool.eq_iff_iff, atQ_iff hl, ← hL, decide_eq_true_iff]
 have hin : ∀ p, p ∈ L → xQ g q ≤ p.1 ∧ p.1 < xQ g q + (wQ g q : Nat) ∧ yQ g q ≤ p.2 ∧ p.2 < yQ g q + (hQ g q : Nat) := fun p hp => by
  have h1 : atQ g q p.2 p.1 = true := by rw [hat]; simpa using hp
  have h2 := atQ_in h1
  refine ⟨h2.1, h2.2, ?_⟩
  unfold atQ atG at h1
  unfold yQ hQ
  split at h1
  ·rename_i e
   simp only [Bool.and_eq_true, decide_eq_true_iff] at h1
   rw [if_pos e, if_pos e]; omega
  ·rename_i e
   simp only [Bool.and_eq_true, decide_eq_true_iff] at h1
   rw [if_neg e, if_neg e]; omega
 unfold linG
 rw [lnS_mem, linL_mem]
 constructor
 ·rintro ⟨i, h1, h2, h3⟩
  obtain ⟨k, k1, k2, k3, rfl⟩ := lnC_mem.1 h3
  rw [hat] at k2 k3
  have hm : (xQ g q + (k : Nat), yQ g q + (i : Nat)) ∈ L := by simpa using k2
  refine ⟨_, hm, ?_, ?_⟩
  ·unfold begL
   simp only [h2, decide_true, Bool.true_and, k3, Bool.not_false]
  ·simp only
   have e : atQ g q (yQ g q + (i : Nat)) = hasL L (yQ g q + (i : Nat)) := funext fun c => hat _ _
   rw [e]
   rw [rE_eq (f := hasL L (yQ g q + (i : Nat))) (x := xQ g q + (wQ g q : Nat)) (n := wQ g q - 1 - k) (m := 1000) (c := xQ g q + (k : Nat))]
   ·intro j hj
    rw [← hat]
    exact atQ_out (.inr hj)
   ·omega
   ·omega
 ·rintro ⟨p, h1, h2, rfl⟩
  unfold begL at h2
  simp only [Bool.and_eq_true, decide_eq_true_iff, Bool.not_eq_true'] at h2
  obtain ⟨h2, h3⟩ := h2
  obtain ⟨b1, b2, b3, b4⟩ := hin p h1
  obtain ⟨i, hi⟩ : ∃ i : Nat, p.2 = yQ g q + i := ⟨(p.2 - yQ g q).toNat, by omega⟩
  obtain ⟨k, hk⟩ : ∃ k : Nat, p.1 = xQ g q + k := ⟨(p.1 - xQ g q).toNat, by omega⟩
  obtain ⟨a, b⟩ := p
  simp only at hi hk h1 h2 h3 b1 b2 b3 b4
  subst hi; subst hk
  refine ⟨i, by omega, h2, lnC_mem.2 ⟨k, by omega, ?_, ?_, ?_⟩⟩
  ·rw [hat]; simpa using h1
  ·rw [hat]; exact h3
  ·simp only
   have e : atQ g q (yQ g q + (i : Nat)) = hasL L (yQ g q + (i : Nat)) := funext fun c => hat _ _
   rw [e]
   rw [rE_eq (f := hasL L (yQ g q + (i : Nat))) (x := xQ g q + (wQ g q : Nat)) (n := wQ g q - 1 - k) (m := 1000) (c := xQ g q + (k : Nat))]
   ·intro j hj
    rw [← hat]
    exact atQ_out (.inr hj)
   ·omega
   ·omega
theorem linG_is {g : Grd} (hl : g.on.length = g.w * g.h) {q : Int} (hw : wQ g q ≤ 999) {L : List Spot} {ev ph : Int} (hL : ∀ p, p ∈ L ↔ trQ q p ∈ covG g) (hn : L.Nodup) {l : List Lin} (hp : l.Perm (linL L L ev ph)) (hs : l.Pairwise leL) : l = linG g q ev ph := by
 have hsg : (linG g q ev ph).Pairwise ltL := lnS_sorted
 have h2 : l.Perm (linG g q ev ph) := hp.trans ((List.perm_ext_iff_of_nodup (linL_nodup hn) (ltL_nodup hsg)).2 fun t => (linG_mem hl hw hL).symm)
 refine List.Perm.eq_of_pairwise (le := leL) ?_ hs (hsg.imp fun {a b} h => by unfold leL; unfold ltL at h; omega) h2
 intro a b ha hb h3 h4
 have ha' := h2.subset ha
 have e1 : a.1 = b.1 ∧ a.2.1 = b.2.1 := by unfold leL at h3 h4; omega
 apply Classical.byContradiction
 intro hne
 obtain ⟨i, hi, rfl⟩ := List.getElem_of_mem ha'
 obtain ⟨j, hj, rfl⟩ := List.getElem_of_mem hb
 rcases Nat.lt_trichotomy i j with h | h | h
 ·have := List.pairwise_iff_getElem.1 hsg i j hi hj h
  unfold ltL at this; omega
 ·subst h; exact hne rfl
 ·have := List.pairwise_iff_getElem.1 hsg j i hj hi h
  unfold ltL at this; omega
end Go.Proofs.YtniolldgidgffaaGreatDoor
