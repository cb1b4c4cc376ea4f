/- Solid cells, by value: the closure. -/
import Derived.Test.YtgeenfjmhhenfaaGreatDoorQbd
set_option linter.unusedSimpArgs false
set_option linter.unusedVariables false
/- What is wrong with layers and styles, by value. -/
-- NEWM
namespace Go.Proofs.YtgeenfjmhhenfaaGreatDoor
open Go Go.RowKit
set_option maxRecDepth 100000
theorem isstack_v (n : Int) : ACalls Tryz.prog 63 [.c (I n)] [] fun u H => u = .c (B (!outB n 0 50)) ∧ H = [] := by
 obtain ⟨b, ho⟩ : ∃ b, outB n 0 50 = b := ⟨_, rfl⟩
 rw [ho]
 refine acalls_of (N := 6) Tryz.func63 rfl rfl (by simp) fun E hE => ?_
 repeat' (first
  | (with_reducible refine aw_seq ?_) | (with_reducible refine aseq_n ?_) | (with_reducible refine aseq_r ?_) | (with_reducible refine ablk_n ?_) | (with_reducible refine ablk_r ?_) | (with_reducible refine ablk_e ?_) | (with_reducible refine ablk_o rfl ?_) | (with_reducible refine aseq_e ?_) | (with_reducible refine aw_skip ?_) | (with_reducible refine aw_block ?_) | (with_reducible refine aw_ret ?_) | (with_reducible refine aw_exit ?_)
  | refine aw_cond_t rfl ?_ | refine aw_cond_f rfl ?_ | refine aw_if_t rfl (by assumption) ?_ | refine aw_if_f rfl (by assumption) ?_ | refine aw_if rfl (fun _ => ?_) (fun _ => ?_) | refine aw_cond rfl (fun _ => ?_) (fun _ => ?_)
  | (refine aw_region (id := 1) ?_
     refine WO ?_
     refine al_ef rfl (ef_call0 false (fun _ => out_v _ _ _) rfl .fn rfl (by decide) (by kernel_rfl) rfl (fun _ => C0 rfl) (by simp)) ?_
     rintro _ _ ⟨_, _, _, ⟨rfl, rfl⟩, hF, hH⟩
     rw [ho] at hF
     (refine NST hF hH ?_; clear hF hH; rintro rfl rfl)
     refine WE ?_)
  | (refine aw_region ?_; refine WE ?_))
 exact aret_1 [] _ rfl rfl rfl (by decide) (ZNK rfl) (fun _ => .nil) ⟨rfl, rfl⟩
def layG (st : Int) : List Cel → Int
 | [] => 0
 | c :: l => if celF c ≠ 0 then celF c else if c.st ≠ st then 3 else layG st l
def layF (l : List Cel) : Int := if 50 < l.length then 2 else layG ((l.map (·.st)).headD 0) l
theorem layG_drop {st : Int} {l : List Cel} {k : Nat} {c : Cel} (h : l[k]? = some c) : layG st (l.drop k) = if celF c ≠ 0 then celF c else if c.st ≠ st then 3 else layG st (l.drop (k + 1)) := by
 obtain ⟨hk, rfl⟩ := List.getElem?_eq_some_iff.1 h
 rw [List.drop_eq_getElem_cons hk]; rfl
set_option maxHeartbeats 1000000 in
theorem layersfault_v (va : Value) (l : List (Value × Cel)) (hsz : ∀ p ∈ l, p.2.rows.length ≤ 1000000000 ∧ ∀ r ∈ p.2.rows, r.length ≤ 1000000000) (hl : l.length ≤ 1000000) : ACalls Tryz.prog 62 [.c (.r va (cR l))] [] fun u H => u = .c (I (layF (l.map Prod.snd))) ∧ H = [] := by
 have e1 : (cR l).length = l.length := by simp
 have hlf : layF (l.map Prod.snd) = if 50 < l.length then 2 else layG (((l.map Prod.snd).map (·.st)).headD 0) (l.map Prod.snd) := by rw [layF, List.length_map]
 refine acalls_of (N := 28) Tryz.func62 rfl rfl (by simp) fun E hE => ?_
 refine WA ?_
 refine WA ?_
 refine aw_if rfl (fun h1 => ?_) (fun h1 => ?_)
 ·refine WA ?_
  exact aret_1 [] _ rfl rfl rfl (by decide) (ZNK rfl) (fun _ => .nil) ⟨congrArg (fun z => AV.c (I z)) (by rw [hlf, if_pos (by omega)]), rfl⟩
 rw [if_neg (by omega)] at hlf
 generalize hst : ((l.map Prod.snd).map (·.st)).headD 0 = st at *
 refine ZZ ?_
 refine WA ?_
 refine aw_loopw (fun m F H => ∃ k : Nat, m + k = l.length ∧ layG st ((l.map Prod.snd).drop k) = layG st (l.map Prod.snd) ∧ F = [(0, .c (.r va (cR l))), (9, .c (.r va (cR l))), (10, .c (I (cR l).length)), (11, .c (I k))] ∧ H = []) ?_ ?_
 ·refine wk_of [] (fun _ => [(0, .c (.r va (cR l))), (9, .c (.r va (cR l))), (10, .c (I (cR l).length)), (11, .c (I (0 : Nat)))]) (fun _ => []) (by decide) (ZNL hE) ZCF (fun _ => .nil) (fun _ => ?_)
  exact ⟨l.length, 0, by omega, rfl, rfl, rfl⟩
 rintro m F H ⟨k, hk, hd, rfl, rfl⟩
 refine WA ?_
 refine aw_if rfl (fun hlt => ?_) (fun hge => ?_)
 ·obtain ⟨⟨va', ca⟩, hz⟩ : ∃ e, l[k]? = some e := ⟨_, List.getElem?_eq_getElem (by omega)⟩
  obtain ⟨⟨v0, c0⟩, hz0⟩ : ∃ e, l[0]? = some e := ⟨_, List.getElem?_eq_getElem (by omega)⟩
  have hrow : (cR l)[k]? = some (celR va' ca) := by rw [List.getElem?_map, hz]; rfl
  have hrow0 : (cR l)[0]? = some (celR v0 c0) := by rw [List.getElem?_map, hz0]; rfl
  have hs0 : st = c0.st := by
   rw [← hst]
   cases l with
   | nil => cases hz0
   | cons a l => injection hz0 with e; rw [e]; rfl
  have hzm : (l.map Prod.snd)[k]? = some ca := by rw [List.getElem?_map, hz]; rfl
  have hdr := layG_drop (st := st) hzm
  obtain ⟨q, hq⟩ : ∃ q, celF ca = q := ⟨_, rfl⟩
  rw [hq] at hdr
  refine WA ?_
  refine WR ?_
  refine al_ef rfl (ef_call0 false (fun _ => check_v va' ca (hsz _ (List.mem_of_getElem? hz)).1 (hsz _ (List.mem_of_getElem? hz)).2) rfl .fn rfl (by decide) (by kernel_rfl) rfl (fun _ => C0 rfl) (by simp)) ?_
  rintro _ _ ⟨_, _, _, ⟨rfl, rfl⟩, hF, hH⟩
  rw [hq] at hF
  (refine NST hF hH ?_; clear hF hH; rintro rfl rfl)
  refine WE ?_
  refine WA ?_
  refine aw_if rfl (fun h2 => ?_) (fun h2 => ?_)
  ·refine WA ?_
   exact aret_1 [] _ rfl rfl rfl (by decide) (ZNK rfl) (fun _ => .nil) ⟨congrArg (fun z => AV.c (I z)) (by rw [hlf, ← hd, hdr, if_pos h2]), rfl⟩
  rw [if_neg h2] at hdr
  refine ZZ ?_
  refine aw_regionT [(0, none), (1, none), (2, none), (3, none), (4, none), (5, none), (6, none)] hMixed (by kernel_rfl) ?_
  refine WQ ?_
  refine aw_if rfl (fun h3 => ?_) (fun h3 => ?_)
  ·refine WA ?_
   exact aret_1 [] _ rfl rfl rfl (by decide) (ZNK rfl) (fun _ => .nil) ⟨congrArg (fun z => AV.c (I z)) (by rw [hlf, ← hd, hdr, if_pos (by rw [hs0]; exact h3)]), rfl⟩
  rw [if_neg (by rw [hs0]; exact h3)] at hdr
  refine ZZ ?_
  refine WA ?_
  refine wk_of [] (fun _ => [(0, .c (.r va (cR l))), (9, .c (.r va (cR l))), (10, .c (I (cR l).length)), (11, .c (I (k + 1 : Nat)))]) (fun _ => []) (by decide) (ZNL hE) ZCF (fun _ => .nil) (fun _ => ?_)
  exact ⟨m - 1, by omega, k + 1, by omega, by rw [← hd, hdr], rfl, rfl⟩
 obtain rfl : k = l.length := by omega
 refine ZZ ?_
 refine WA ?_
 exact aret_1 [] _ rfl rfl rfl (by decide) (ZNK rfl) (fun _ => .nil) ⟨congrArg (fun z => AV.c (I z)) (by rw [hlf, ← hd, List.drop_eq_nil_of_le (by simp)]; rfl), rfl⟩
def styF (w t b e : Int) : Int := if (outB w 0 10 || outB t 0 50 || outB b 0 50 || outB e 1 200) = true then 1 else 0
set_option maxHeartbeats 1000000 in
theorem style_v (w t b e : Int) : ACalls Tryz.prog 67 [.a [.c (I w), .c (I t), .c (I b), .c (I e)]] [] fun u H => u = .c (I (styF w t b e)) ∧ H = [] := by
 obtain ⟨b1, h1⟩ : ∃ q, outB w 0 10 = q := ⟨_, rfl⟩
 obtain ⟨b2, h2⟩ : ∃ q, outB t 0 50 = q := ⟨_, rfl⟩
 obtain ⟨b3, h3⟩ : ∃ q, outB b 0 50 = q := ⟨_, rfl⟩
 obtain ⟨b4, h4⟩ : ∃ q, outB e 1 200 = q := ⟨_, rfl⟩
 rw [styF, h1, h2, h3, h4]
 refine acalls_of (N := 23) Tryz.func67 rfl rfl (by simp) fun E hE => ?_
 cases b1 with
 | true =>
  refine WA ?_
  refine WR ?_
  refine al_ef rfl (ef_call0 false (fun _ => out_v _ _ _) rfl .fn rfl (by decide) (by kernel_rfl) rfl (fun _ => C0 rfl) (by simp)) ?_
  rintro _ _ ⟨_, _, _, ⟨rfl, rfl⟩, hF, hH⟩
  rw [h1] at hF
  (refine NST hF hH ?_; clear hF hH; rintro rfl rfl)
  refine WO ?_
  first | refine ZS ?_ | (refine G1 rfl ?_; refine al_ef rfl (ef_call0 false (fun _ => isstack_v _) rfl .fn rfl (by decide) (by kernel_rfl) rfl (fun _ => C0 rfl) (by simp)) ?_; rintro _ _ ⟨_, _, _, ⟨rfl, rfl⟩, hF, hH⟩; rw [h2] at hF; (refine NST hF hH ?_; clear hF hH; rintro rfl rfl)) | skip
  refine WO ?_
  first | refine ZS ?_ | (refine G1 rfl ?_; refine al_ef rfl (ef_call0 false (fun _ => isstack_v _) rfl .fn rfl (by decide) (by kernel_rfl) rfl (fun _ => C0 rfl) (by simp)) ?_; rintro _ _ ⟨_, _, _, ⟨rfl, rfl⟩, hF, hH⟩; rw [h3] at hF; (refine NST hF hH ?_; clear hF hH; rintro rfl rfl)) | skip
  refine WO ?_
  first | refine ZS ?_ | (refine G1 rfl ?_; refine al_ef rfl (ef_call0 false (fun _ => out_v _ _ _) rfl .fn rfl (by decide) (by kernel_rfl) rfl (fun _ => C0 rfl) (by simp)) ?_; rintro _ _ ⟨_, _, _, ⟨rfl, rfl⟩, hF, hH⟩; rw [h4] at hF; (refine NST hF hH ?_; clear hF hH; rintro rfl rfl)) | skip
  refine WE ?_
  refine aw_cond_t rfl ?_
  refine WA ?_
  exact aret_1 [] _ rfl rfl rfl (by decide) (ZNK rfl) (fun _ => .nil) ⟨rfl, rfl⟩
 | false =>
 cases b2 with
 | true =>
  refine WA ?_
  refine WR ?_
  refine al_ef rfl (ef_call0 false (fun _ => out_v _ _ _) rfl .fn rfl (by decide) (by kernel_rfl) rfl (fun _ => C0 rfl) (by simp)) ?_
  rintro _ _ ⟨_, _, _, ⟨rfl, rfl⟩, hF, hH⟩
  rw [h1] at hF
  (refine NST hF hH ?_; clear hF hH; rintro rfl rfl)
  refine WO ?_
  first | refine ZS ?_ | (refine G1 rfl ?_; refine al_ef rfl (ef_call0 false (fun _ => isstack_v _) rfl .fn rfl (by decide) (by kernel_rfl) rfl (fun _ => C0 rfl) (by simp)) ?_; rintro _ _ ⟨_, _, _, ⟨rfl, rfl⟩, hF, hH⟩; rw [h2] at hF; (refine NST hF hH ?_; clear hF hH; rintro rfl rfl)) | skip
  refine WO ?_
  first | refine ZS ?_ | (refine G1 rfl ?_; refine al_ef rfl (ef_call0 false (fun _ => isstack_v _) rfl .fn rfl (by decide) (by kernel_rfl) rfl (fun _ => C0 rfl) (by simp)) ?_; rintro _ _ ⟨_, _, _, ⟨rfl, rfl⟩, hF, hH⟩; rw [h3] at hF; (refine NST hF hH ?_; clear hF hH; rintro rfl rfl)) | skip
  refine WO ?_
  first | refine ZS ?_ | (refine G1 rfl ?_; refine al_ef rfl (ef_call0 false (fun _ => out_v _ _ _) rfl .fn rfl (by decide) (by kernel_rfl) rfl (fun _ => C0 rfl) (by simp)) ?_; rintro _ _ ⟨_, _, _, ⟨rfl, rfl⟩, hF, hH⟩; rw [h4] at hF; (refine NST hF hH ?_; clear hF hH; rintro rfl rfl)) | skip
  refine WE ?_
  refine aw_cond_t rfl ?_
  refine WA ?_
  exact aret_1 [] _ rfl rfl rfl (by decide) (ZNK rfl) (fun _ => .nil) ⟨rfl, rfl⟩
 | false =>
 cases b3 with
 | true =>
  refine WA ?_
  refine WR ?_
  refine al_ef rfl (ef_call0 false (fun _ => out_v _ _ _) rfl .fn rfl (by decide) (by kernel_rfl) rfl (fun _ => C0 rfl) (by simp)) ?_
  rintro _ _ ⟨_, _, _, ⟨rfl, rfl⟩, hF, hH⟩
  rw [h1] at hF
  (refine NST hF hH ?_; clear hF hH; rintro rfl rfl)
  refine WO ?_
  first | refine ZS ?_ | (refine G1 rfl ?_; refine al_ef rfl (ef_call0 false (fun _ => isstack_v _) rfl .fn rfl (by decide) (by kernel_rfl) rfl (fun _ => C0 rfl) (by simp)) ?_; rintro _ _ ⟨_, _, _, ⟨rfl, rfl⟩, hF, hH⟩; rw [h2] at hF; (refine NST hF hH ?_; clear hF hH; rintro rfl rfl)) | skip
  refine WO ?_
  first | refine ZS ?_ | (refine G1 rfl ?_; refine al_ef rfl (ef_call0 false (fun _ => isstack_v _) rfl .fn rfl (by decide) (by kernel_rfl) rfl (fun _ => C0 rfl) (by simp)) ?_; rintro _ _ ⟨_, _, _, ⟨rfl, rfl⟩, hF, hH⟩; rw [h3] at hF; (refine NST hF hH ?_; clear hF hH; rintro rfl rfl)) | skip
  refine WO ?_
  first | refine ZS ?_ | (refine G1 rfl ?_; refine al_ef rfl (ef_call0 false (fun _ => out_v _ _ _) rfl .fn rfl (by decide) (by kernel_rfl) rfl (fun _ => C0 rfl) (by simp)) ?_; rintro _ _ ⟨_, _, _, ⟨rfl, rfl⟩, hF, hH⟩; rw [h4] at hF; (refine NST hF hH ?_; clear hF hH; rintro rfl rfl)) | skip
  refine WE ?_
  refine aw_cond_t rfl ?_
  refine WA ?_
  exact aret_1 [] _ rfl rfl rfl (by decide) (ZNK rfl) (fun _ => .nil) ⟨rfl, rfl⟩
 | false =>
 cases b4 with
 | true =>
  refine WA ?_
  refine WR ?_
  refine al_ef rfl (ef_call0 false (fun _ => out_v _ _ _) rfl .fn rfl (by decide) (by kernel_rfl) rfl (fun _ => C0 rfl) (by simp)) ?_
  rintro _ _ ⟨_, _, _, ⟨rfl, rfl⟩, hF, hH⟩
  rw [h1] at hF
  (refine NST hF hH ?_; clear hF hH; rintro rfl rfl)
  refine WO ?_
  first | refine ZS ?_ | (refine G1 rfl ?_; refine al_ef rfl (ef_call0 false (fun _ => isstack_v _) rfl .fn rfl (by decide) (by kernel_rfl) rfl (fun _ => C0 rfl) (by simp)) ?_; rintro _ _ ⟨_, _, _, ⟨rfl, rfl⟩, hF, hH⟩; rw [h2] at hF; (refine NST hF hH ?_; clear hF hH; rintro rfl rfl)) | skip
  refine WO ?_
  first | refine ZS ?_ | (refine G1 rfl ?_; refine al_ef rfl (ef_call0 false (fun _ => isstack_v _) rfl .fn rfl (by decide) (by kernel_rfl) rfl (fun _ => C0 rfl) (by simp)) ?_; rintro _ _ ⟨_, _, _, ⟨rfl, rfl⟩, hF, hH⟩; rw [h3] at hF; (refine NST hF hH ?_; clear hF hH; rintro rfl rfl)) | skip
  refine WO ?_
  first | refine ZS ?_ | (refine G1 rfl ?_; refine al_ef rfl (ef_call0 false (fun _ => out_v _ _ _) rfl .fn rfl (by decide) (by kernel_rfl) rfl (fun _ => C0 rfl) (by simp)) ?_; rintro _ _ ⟨_, _, _, ⟨rfl, rfl⟩, hF, hH⟩; rw [h4] at hF; (refine NST hF hH ?_; clear hF hH; rintro rfl rfl)) | skip
  refine WE ?_
  refine aw_cond_t rfl ?_
  refine WA ?_
  exact aret_1 [] _ rfl rfl rfl (by decide) (ZNK rfl) (fun _ => .nil) ⟨rfl, rfl⟩
 | false =>
  refine WA ?_
  refine WR ?_
  refine al_ef rfl (ef_call0 false (fun _ => out_v _ _ _) rfl .fn rfl (by decide) (by kernel_rfl) rfl (fun _ => C0 rfl) (by simp)) ?_
  rintro _ _ ⟨_, _, _, ⟨rfl, rfl⟩, hF, hH⟩
  rw [h1] at hF
  (refine NST hF hH ?_; clear hF hH; rintro rfl rfl)
  refine WO ?_
  first | refine ZS ?_ | (refine G1 rfl ?_; refine al_ef rfl (ef_call0 false (fun _ => isstack_v _) rfl .fn rfl (by decide) (by kernel_rfl) rfl (fun _ => C0 rfl) (by simp)) ?_; rintro _ _ ⟨_, _, _, ⟨rfl, rfl⟩, hF, hH⟩; rw [h2] at hF; (refine NST hF hH ?_; clear hF hH; rintro rfl rfl)) | skip
  refine WO ?_
  first | refine ZS ?_ | (refine G1 rfl ?_; refine al_ef rfl (ef_call0 false (fun _ => isstack_v _) rfl .fn rfl (by decide) (by kernel_rfl) rfl (fun _ => C0 rfl) (by simp)) ?_; rintro _ _ ⟨_, _, _, ⟨rfl, rfl⟩, hF, hH⟩; rw [h3] at hF; (refine NST hF hH ?_; clear hF hH; rintro rfl rfl)) | skip
  refine WO ?_
  first | refine ZS ?_ | (refine G1 rfl ?_; refine al_ef rfl (ef_call0 false (fun _ => out_v _ _ _) rfl .fn rfl (by decide) (by kernel_rfl) rfl (fun _ => C0 rfl) (by simp)) ?_; rintro _ _ ⟨_, _, _, ⟨rfl, rfl⟩, hF, hH⟩; rw [h4] at hF; (refine NST hF hH ?_; clear hF hH; rintro rfl rfl)) | skip
  refine WE ?_
  refine aw_cond_f rfl ?_
  refine ZZ ?_
  refine WA ?_
  exact aret_1 [] _ rfl rfl rfl (by decide) (ZNK rfl) (fun _ => .nil) ⟨rfl, rfl⟩
end Go.Proofs.YtgeenfjmhhenfaaGreatDoor

/- Solid cells, by value: the closure. -/
-- NEWM
namespace Go.Proofs.YtgeenfjmhhenfaaGreatDoor
open Go Go.RowKit
set_option maxRecDepth 100000
def okL (Ls : List (List Spot)) (q : Spot) (k : Int) : Bool := decide (0 ≤ k) && decide (q ∈ Ls.getD k.toNat [])
abbrev nearL (Ls : List (List Spot)) (ly tp bo : Int) (q : Spot) : Bool := allU (okL Ls q) (tp + bo + 1).toNat (ly - bo)
set_option maxHeartbeats 2000000 in
theorem solid1_v (w : Value) (gs : List (Value × Value × Grd)) (Ls : List (List Spot)) (ly tp bo : Int) (hly : 0 ≤ ly ∧ ly < 100) (htp : 0 ≤ tp ∧ tp ≤ 50) (hbo : 0 ≤ bo ∧ bo ≤ 50) (hgs : gs.length ≤ 100) (hLs : Ls.length = gs.length) (hat : ∀ (k : Nat) p, gs[k]? = some p → GOk p.2.2 ∧ ∀ a b, atG p.2.2 a b = decide ((a, b) ∈ Ls.getD k [])) (g : Grd) (hg : GOk g) (on : List Bool) (j : Nat) (hj : j < g.on.length) (hon : on.length = g.w * g.h) (a b : Int) (ha : a = g.x + (j : Int) % g.w) (hbb : b = g.y + (j : Int) / g.w) : ACalls Tryz.prog 138 [.c (I a), .c (I b), .p 0 0 0, .p 1 0 0, .p 2 0 0, .p 3 0 0, .p 4 0 0] [.box [.c (I ly)], .box [.c (I bo)], .box [.c (I tp)], .box [.c (.r w (gR gs))], .box [.p 5 0 0], gB g.st g.x g.y g.w g.h 6 (g.w * g.h), gArr (g.w * g.h) (on)] fun u H => u = .t [] ∧ H = [.box [.c (I ly)], .box [.c (I bo)], .box [.c (I tp)], .box [.c (.r w (gR gs))], .box [.p 5 0 0], gB g.st g.x g.y g.w g.h 6 (g.w * g.h), gArr (g.w * g.h) (if nearL Ls ly tp bo (a, b) = true then on else on.set j true)] := by
 obtain ⟨w1, ⟨w2, w3⟩, w4, w5⟩ := each_at hg hj
 have e1 : (gR gs).length = gs.length := by simp
 have hgx := hg.x
 have hgy := hg.y
 have hi := spt_ix w1 ha hbb
 have hnb : g.w * g.h ≤ 1000000 := Nat.le_trans (Nat.mul_le_mul hg.w hg.h) (by decide)
 have hjn : j < g.w * g.h := by rw [← hg.len]; exact hj
 have hab : -100000000 ≤ a ∧ a ≤ 100000000 := by omega
 have hb : -100000000 ≤ b ∧ b ≤ 100000000 := by omega
 clear ha hbb w1 w2 w3 w4 w5
 have hPP : nearL Ls ly tp bo (a, b) = allU (okL Ls (a, b)) (tp + bo + 1).toNat (ly - bo) := rfl
 generalize nearL Ls ly tp bo (a, b) = P at *
 refine acallsx_of false (N := 42) Tryz.func138 rfl rfl (by simp) fun E hE hP => ?_
 refine WA ?_
 refine aw_loopw (fun m F H => ∃ k : Int, k + m = ly + tp + 1 ∧ ly - bo ≤ k ∧ allU (okL Ls (a, b)) m k = P ∧ F = [(0, .c (I a)), (1, .c (I b)), (2, .p 0 0 0), (3, .p 1 0 0), (4, .p 2 0 0), (5, .p 3 0 0), (6, .p 4 0 0), (9, .c (I (k)))] ∧ H = [.box [.c (I ly)], .box [.c (I bo)], .box [.c (I tp)], .box [.c (.r w (gR gs))], .box [.p 5 0 0], gB g.st g.x g.y g.w g.h 6 (g.w * g.h), gArr (g.w * g.h) (on)]) ?_ ?_
 ·refine wk_of [some 0, some 1, some 2, some 3, some 4, some 5, some 6] (fun _ => [(0, .c (I a)), (1, .c (I b)), (2, .p 0 0 0), (3, .p 1 0 0), (4, .p 2 0 0), (5, .p 3 0 0), (6, .p 4 0 0), (9, .c (I (ly - bo)))]) (fun _ => [.box [.c (I ly)], .box [.c (I bo)], .box [.c (I tp)], .box [.c (.r w (gR gs))], .box [.p 5 0 0], gB g.st g.x g.y g.w g.h 6 (g.w * g.h), gArr (g.w * g.h) (on)]) (by decide) (ZNL hE) ZCF ZCH (fun _ => ?_)
  exact ⟨(tp + bo + 1).toNat, ly - bo, by omega, by omega, hPP.symm, rfl, rfl⟩
 rintro m F H ⟨k, hk, hkn, hal, rfl, rfl⟩
 refine WA ?_
 refine aw_if rfl (fun hlt => ?_) (fun hge => ?_)
 ·obtain ⟨m, rfl⟩ : ∃ m', m = m' + 1 := ⟨m - 1, by omega⟩
  rw [allU] at hal
  by_cases hk0 : k < 0
  ·have hz : okL Ls (a, b) k = false := by rw [okL, decide_eq_false (by omega)]; rfl
   rw [hz] at hal
   obtain rfl : P = false := by simpa using hal.symm
   refine WR ?_
   first | refine ZS ?_ | (refine G1 rfl ?_; refine al_ef rfl (ef_call0 false (fun _ => at_v gk ok pk a b hgk hab hb) rfl .fn rfl (by decide) (by kernel_rfl) rfl (fun _ => C0 rfl) (by simp)) ?_; rintro _ _ ⟨_, _, _, ⟨rfl, rfl⟩, hF, hH⟩; rw [hatk, hq] at hF; (refine NST hF hH ?_; clear hF hH; rintro rfl rfl)) | skip
   refine WE ?_
   refine aw_cond_t rfl ?_
   refine WR ?_
   refine al_ef rfl (ef_callp [5, 6] (fun _ => [gB g.st g.x g.y g.w g.h 1 (g.w * g.h), gArr (g.w * g.h) on]) false (fun _ => set_v g.st g.x g.y g.w g.h on (g.w * g.h) a b j hon hi (by omega) hnb (by omega) (by omega) hgx hgy) rfl .fn rfl (by decide) (by kernel_rfl) rfl (fun _ => .cons (.p rfl) (.cons (.c rfl) (.cons (.c rfl) .nil))) (by decide) ZCH (by simp)) ?_
   rintro F1 H1 ⟨_, _, _, _, ⟨rfl, rfl⟩, hF, hH⟩
   rw [killF_nil] at hF; (refine NSU hF hH ?_; clear hF hH; rintro rfl rfl)
   refine WE ?_
   exact aret_0 [some 0, some 1, some 2, some 3, some 4, some 5, some 6] (fun _ => [.box [.c (I ly)], .box [.c (I bo)], .box [.c (I tp)], .box [.c (.r w (gR gs))], .box [.p 5 0 0], gB g.st g.x g.y g.w g.h 6 (g.w * g.h), gArr (g.w * g.h) (on.set j true)]) (.inl rfl) rfl (by decide) (ZNK rfl) ZCH (fun _ => ⟨rfl, rfl⟩)
  obtain ⟨i, rfl⟩ : ∃ i : Nat, k = i := ⟨k.toNat, by omega⟩
  have hok0 : okL Ls (a, b) (i : Int) = decide ((a, b) ∈ Ls.getD i []) := by rw [okL, decide_eq_true (by omega)]; simp
  by_cases hkl : gs.length ≤ i
  ·have hz : okL Ls (a, b) (i : Int) = false := by rw [hok0, List.getD_eq_getElem?_getD, List.getElem?_eq_none (by omega)]; simp
   rw [hz] at hal
   obtain rfl : P = false := by simpa using hal.symm
   refine WR ?_
   first | refine ZS ?_ | (refine G1 rfl ?_; refine al_ef rfl (ef_call0 false (fun _ => at_v gk ok pk a b hgk hab hb) rfl .fn rfl (by decide) (by kernel_rfl) rfl (fun _ => C0 rfl) (by simp)) ?_; rintro _ _ ⟨_, _, _, ⟨rfl, rfl⟩, hF, hH⟩; rw [hatk, hq] at hF; (refine NST hF hH ?_; clear hF hH; rintro rfl rfl)) | skip
   refine WE ?_
   refine aw_cond_t rfl ?_
   refine WR ?_
   refine al_ef rfl (ef_callp [5, 6] (fun _ => [gB g.st g.x g.y g.w g.h 1 (g.w * g.h), gArr (g.w * g.h) on]) false (fun _ => set_v g.st g.x g.y g.w g.h on (g.w * g.h) a b j hon hi (by omega) hnb (by omega) (by omega) hgx hgy) rfl .fn rfl (by decide) (by kernel_rfl) rfl (fun _ => .cons (.p rfl) (.cons (.c rfl) (.cons (.c rfl) .nil))) (by decide) ZCH (by simp)) ?_
   rintro F1 H1 ⟨_, _, _, _, ⟨rfl, rfl⟩, hF, hH⟩
   rw [killF_nil] at hF; (refine NSU hF hH ?_; clear hF hH; rintro rfl rfl)
   refine WE ?_
   exact aret_0 [some 0, some 1, some 2, some 3, some 4, some 5, some 6] (fun _ => [.box [.c (I ly)], .box [.c (I bo)], .box [.c (I tp)], .box [.c (.r w (gR gs))], .box [.p 5 0 0], gB g.st g.x g.y g.w g.h 6 (g.w * g.h), gArr (g.w * g.h) (on.set j true)]) (.inl rfl) rfl (by decide) (ZNK rfl) ZCH (fun _ => ⟨rfl, rfl⟩)
  obtain ⟨⟨ok, pk, gk⟩, hz⟩ : ∃ e, gs[i]? = some e := ⟨_, List.getElem?_eq_getElem (by omega)⟩
  have hrow : (gR gs)[i]? = some [.p ok (gRow gk pk)] := by rw [List.getElem?_map, hz]; rfl
  obtain ⟨hgk, hatk⟩ := hat i _ hz
  obtain ⟨q, hq⟩ : ∃ q, decide ((a, b) ∈ Ls.getD i []) = q := ⟨_, rfl⟩
  rw [hok0, hq] at hal
  cases q with
  | true =>
   refine WR ?_
   first | refine ZS ?_ | (refine G1 rfl ?_; refine al_ef rfl (ef_call0 false (fun _ => at_v gk ok pk a b hgk hab hb) rfl .fn rfl (by decide) (by kernel_rfl) rfl (fun _ => C0 rfl) (by simp)) ?_; rintro _ _ ⟨_, _, _, ⟨rfl, rfl⟩, hF, hH⟩; rw [hatk, hq] at hF; (refine NST hF hH ?_; clear hF hH; rintro rfl rfl)) | skip
   refine WE ?_
   refine aw_cond_f rfl ?_
   refine ZZ ?_
   refine WA ?_
   refine wk_of [some 0, some 1, some 2, some 3, some 4, some 5, some 6] (fun _ => [(0, .c (I a)), (1, .c (I b)), (2, .p 0 0 0), (3, .p 1 0 0), (4, .p 2 0 0), (5, .p 3 0 0), (6, .p 4 0 0), (9, .c (I ((i : Int) + 1)))]) (fun _ => [.box [.c (I ly)], .box [.c (I bo)], .box [.c (I tp)], .box [.c (.r w (gR gs))], .box [.p 5 0 0], gB g.st g.x g.y g.w g.h 6 (g.w * g.h), gArr (g.w * g.h) (on)]) (by decide) (ZNL hE) ZCF ZCH (fun _ => ?_)
   exact ⟨m, by omega, i + 1, by omega, by omega, by simpa using hal, rfl, rfl⟩
  | false =>
   obtain rfl : P = false := by simpa using hal.symm
   refine WR ?_
   first | refine ZS ?_ | (refine G1 rfl ?_; refine al_ef rfl (ef_call0 false (fun _ => at_v gk ok pk a b hgk hab hb) rfl .fn rfl (by decide) (by kernel_rfl) rfl (fun _ => C0 rfl) (by simp)) ?_; rintro _ _ ⟨_, _, _, ⟨rfl, rfl⟩, hF, hH⟩; rw [hatk, hq] at hF; (refine NST hF hH ?_; clear hF hH; rintro rfl rfl)) | skip
   refine WE ?_
   refine aw_cond_t rfl ?_
   refine WR ?_
   refine al_ef rfl (ef_callp [5, 6] (fun _ => [gB g.st g.x g.y g.w g.h 1 (g.w * g.h), gArr (g.w * g.h) on]) false (fun _ => set_v g.st g.x g.y g.w g.h on (g.w * g.h) a b j hon hi (by omega) hnb (by omega) (by omega) hgx hgy) rfl .fn rfl (by decide) (by kernel_rfl) rfl (fun _ => .cons (.p rfl) (.cons (.c rfl) (.cons (.c rfl) .nil))) (by decide) ZCH (by simp)) ?_
   rintro F1 H1 ⟨_, _, _, _, ⟨rfl, rfl⟩, hF, hH⟩
   rw [killF_nil] at hF; (refine NSU hF hH ?_; clear hF hH; rintro rfl rfl)
   refine WE ?_
   exact aret_0 [some 0, some 1, some 2, some 3, some 4, some 5, some 6] (fun _ => [.box [.c (I ly)], .box [.c (I bo)], .box [.c (I tp)], .box [.c (.r w (gR gs))], .box [.p 5 0 0], gB g.st g.x g.y g.w g.h 6 (g.w * g.h), gArr (g.w * g.h) (on.set j true)]) (.inl rfl) rfl (by decide) (ZNK rfl) ZCH (fun _ => ⟨rfl, rfl⟩)
 obtain rfl : m = 0 := by omega
 obtain rfl : P = true := hal.symm
 refine ZZ ?_
 exact aret_0 [some 0, some 1, some 2, some 3, some 4, some 5, some 6] (fun _ => [.box [.c (I ly)], .box [.c (I bo)], .box [.c (I tp)], .box [.c (.r w (gR gs))], .box [.p 5 0 0], gB g.st g.x g.y g.w g.h 6 (g.w * g.h), gArr (g.w * g.h) (on)]) (.inr rfl) rfl (by decide) (ZNK rfl) ZCH (fun _ => ⟨rfl, rfl⟩)
end Go.Proofs.YtgeenfjmhhenfaaGreatDoor
