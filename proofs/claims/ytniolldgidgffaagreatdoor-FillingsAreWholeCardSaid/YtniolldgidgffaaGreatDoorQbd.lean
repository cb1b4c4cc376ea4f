/- What is wrong with layers and styles, by value. -/
import Derived.Test.YtniolldgidgffaaGreatDoorQbb
import Derived.Test.YtniolldgidgffaaGreatDoorQbc
import Derived.Test.YtniolldgidgffaaGreatDoorQau
set_option linter.unusedSimpArgs false
set_option linter.unusedVariables false
/- The union of two grids: plain. -/
namespace Go.Proofs.YtniolldgidgffaaGreatDoor
def ixG (x y : Int) (w : Nat) (p : Spot) : Nat := ((p.2 - y) * (w : Int) + p.1 - x).toNat
def putG (x y : Int) (w : Nat) : List Bool → List Spot → List Bool
 | on, [] => on
 | on, p :: L => putG x y w (on.set (ixG x y w p) true) L
theorem putG_app {x y : Int} {w : Nat} : ∀ {L : List Spot} {M : List Spot} {on : List Bool}, putG x y w on (L ++ M) = putG x y w (putG x y w on L) M
 | [], _, _ => rfl
 | p :: L, M, on => by rw [List.cons_append, putG, putG, putG_app]
theorem putG_snoc {x y : Int} {w : Nat} {L : List Spot} {p : Spot} {on : List Bool} : putG x y w on (L ++ [p]) = (putG x y w on L).set (ixG x y w p) true := by rw [putG_app]; rfl
theorem putG_len {x y : Int} {w : Nat} : ∀ {L : List Spot} {on : List Bool}, (putG x y w on L).length = on.length
 | [], _ => rfl
 | p :: L, on => by rw [putG, putG_len, List.length_set]
def inBox (x y : Int) (w h : Nat) (p : Spot) : Prop := (x ≤ p.1 ∧ p.1 < x + w) ∧ (y ≤ p.2 ∧ p.2 < y + h)
theorem ix_box {x y : Int} {w h : Nat} {p : Spot} (hp : inBox x y w h p) : (p.2 - y) * (w : Int) + p.1 - x = ixG x y w p ∧ ixG x y w p < w * h ∧ ixG x y w p = (p.2 - y).toNat * w + (p.1 - x).toNat := by
 obtain ⟨⟨h1, h2⟩, h3, h4⟩ := hp
 obtain ⟨a, ha⟩ : ∃ a : Nat, p.1 = x + a := ⟨(p.1 - x).toNat, by omega⟩
 obtain ⟨b, hb⟩ : ∃ b : Nat, p.2 = y + b := ⟨(p.2 - y).toNat, by omega⟩
 have e : (p.2 - y) * (w : Int) + p.1 - x = ((b * w + a : Nat) : Int) := by
  rw [ha, hb, show y + (b : Int) - y = b by omega]
  push_cast
  omega
 have hlt : b * w + a < w * h := by
  have h5 : (b + 1) * w ≤ h * w := Nat.mul_le_mul_right _ (by omega)
  rw [Nat.succ_mul] at h5
  rw [Nat.mul_comm w h]
  omega
 unfold ixG
 rw [e, Int.toNat_natCast]
 exact ⟨rfl, hlt, by rw [hb, ha, show y + (b : Int) - y = b by omega, show x + (a : Int) - x = a by omega]; rfl⟩
theorem spt_ixG {g : Grd} {p : Spot} (hp : inBox g.x g.y g.w g.h p) : spt g (ixG g.x g.y g.w p) = p := by
 rw [(ix_box hp).2.2]
 obtain ⟨⟨h1, h2⟩, h3, h4⟩ := hp
 rw [spt_at (by omega)]
 ext <;> simp only <;> omega
theorem set_cov {g : Grd} {i : Nat} (hi : i < g.on.length) {q : Spot} : q ∈ covG { g with on := g.on.set i true } ↔ q ∈ covG g ∨ q = spt g i := by
 rw [covG_mem, covG_mem]
 simp only
 constructor
 ·rintro ⟨j, h1, rfl⟩
  by_cases e : i = j
  ·subst e; exact .inr rfl
  ·rw [List.getElem?_set_ne e] at h1; exact .inl ⟨j, h1, rfl⟩
 ·rintro (⟨j, h1, rfl⟩ | rfl)
  ·by_cases e : i = j
   ·subst e; exact ⟨i, by rw [List.getElem?_set_self hi], rfl⟩
   ·exact ⟨j, by rw [List.getElem?_set_ne e]; exact h1, rfl⟩
  ·exact ⟨i, by rw [List.getElem?_set_self hi], rfl⟩
theorem put_cov : ∀ {L : List Spot} {g : Grd}, g.on.length = g.w * g.h → (∀ p ∈ L, inBox g.x g.y g.w g.h p) → ∀ {q : Spot}, q ∈ covG { g with on := putG g.x g.y g.w g.on L } ↔ q ∈ covG g ∨ q ∈ L
 | [], g, _, _, q => by simp [putG]
 | p :: L, g, hl, hL, q => by
  have hp := hL p List.mem_cons_self
  have hi : ixG g.x g.y g.w p < g.on.length := by rw [hl]; exact (ix_box hp).2.1
  have ih := put_cov (L := L) (g := { g with on := g.on.set (ixG g.x g.y g.w p) true }) (by simpa using hl) (fun r hr => hL r (List.mem_cons_of_mem _ hr)) (q := q)
  simp only at ih
  rw [putG, ih, set_cov hi, spt_ixG hp, List.mem_cons]
  constructor
  ·rintro ((h | h) | h)
   ·exact .inl h
   ·exact .inr (.inl h)
   ·exact .inr (.inr h)
  ·rintro (h | h | h)
   ·exact .inl (.inl h)
   ·exact .inl (.inr h)
   ·exact .inr h
theorem cov_none {st x y : Int} {w h n : Nat} {q : Spot} : ¬ q ∈ covG ⟨st, x, y, w, h, List.replicate n false⟩ := fun hq => by
 obtain ⟨i, h1, _⟩ := covG_mem.1 hq
 simp only at h1
 rw [List.getElem?_replicate] at h1
 split at h1 <;> simp at h1
def unG (st x y : Int) (w h : Nat) (A B : List Spot) : Grd := ⟨st, x, y, w, h, putG x y w (putG x y w (List.replicate (w * h) false) A) B⟩
theorem unG_cov {st x y : Int} {w h : Nat} {A B : List Spot} (hA : ∀ p ∈ A, inBox x y w h p) (hB : ∀ p ∈ B, inBox x y w h p) {q : Spot} : q ∈ covG (unG st x y w h A B) ↔ q ∈ A ++ B := by
 have h1 := put_cov (L := B) (g := ⟨st, x, y, w, h, putG x y w (List.replicate (w * h) false) A⟩) (by simp [putG_len]) hB (q := q)
 have h2 := put_cov (L := A) (g := ⟨st, x, y, w, h, List.replicate (w * h) false⟩) (by simp) hA (q := q)
 simp only at h1 h2
 unfold unG
 rw [h1, h2, List.mem_append]
 constructor
 ·rintro ((h | h) | h)
  ·exact absurd h cov_none
  ·exact .inl h
  ·exact .inr h
 ·rintro (h | h)
  ·exact .inl (.inr h)
  ·exact .inr h
theorem unG_len {st x y : Int} {w h : Nat} {A B : List Spot} : (unG st x y w h A B).on.length = w * h := by simp [unG, putG_len]
theorem grd_tight {c : Cel} (h : RCel c) (hw : (grdOf c).w ≠ 0) : covG (grdOf c) ≠ [] ∧ x0 (covG (grdOf c)) = (grdOf c).x ∧ x1 (covG (grdOf c)) = (grdOf c).x + ((grdOf c).w : Int) - 1 ∧ y0 (covG (grdOf c)) = (grdOf c).y ∧ y1 (covG (grdOf c)) = (grdOf c).y + ((grdOf c).h : Int) - 1 := by
 have hne : c.rows ≠ [] := fun e => hw (by rw [grdOf, if_pos e])
 have hs := span_tight (fun r hr => (h.row r hr).1) hne
 rw [h.tight hne] at hs
 unfold spanB at hs
 simp only [Bool.and_eq_true, decide_eq_true_iff] at hs
 obtain ⟨⟨⟨⟨s1, s2⟩, s3⟩, s4⟩, s5⟩ := hs
 obtain ⟨m1, m2, m3, m4⟩ := x0_mem (L := covG (grdOf c)) (L' := covL c) fun p => grdOf_cov h
 have hg : (grdOf c).x = c.x.tdiv c.st ∧ (grdOf c).y = c.y.tdiv c.st ∧ (grdOf c).w = wid c.rows ∧ (grdOf c).h = c.rows.length := by
  unfold grdOf; rw [if_neg hne]; exact ⟨rfl, rfl, rfl, rfl⟩
 obtain ⟨g1, g2, g3, g4⟩ := hg
 refine ⟨fun e => s1 (List.eq_nil_iff_forall_not_mem.2 fun p hp => ?_), by rw [m1, s2, g1], by rw [m2, s4, g1, g3], by rw [m3, s3, g2], by rw [m4, s5, g2, g4]⟩
 rw [← grdOf_cov h, e] at hp
 cases hp
theorem grd_nil {c : Cel} (h : RCel c) (hw : (grdOf c).w = 0) : covG (grdOf c) = [] := List.eq_nil_iff_forall_not_mem.2 fun p hp => by
 obtain ⟨i, h1, _⟩ := covG_mem.1 hp
 have := (List.getElem?_eq_some_iff.1 h1).1
 rw [grdOf_len h, hw] at this
 simp at this
theorem x0_app {A B : List Spot} (hA : A ≠ []) (hB : B ≠ []) : x0 (A ++ B) = min (x0 A) (x0 B) ∧ x1 (A ++ B) = max (x1 A) (x1 B) ∧ y0 (A ++ B) = min (y0 A) (y0 B) ∧ y1 (A ++ B) = max (y1 A) (y1 B) := by
 have mn : ∀ {l m : List Int}, l ≠ [] → m ≠ [] → mnL (l ++ m) = min (mnL l) (mnL m) := fun {l m} h1 h2 => by
  obtain ⟨a1, a2⟩ := mnL_spec h1
  obtain ⟨b1, b2⟩ := mnL_spec h2
  obtain ⟨c1, c2⟩ := mnL_spec (l := l ++ m) (by simp [h1])
  have d1 := c2 _ (List.mem_append_left _ a1)
  have d2 := c2 _ (List.mem_append_right _ b1)
  rcases List.mem_append.1 c1 with h | h
  ·have := a2 _ h; omega
  ·have := b2 _ h; omega
 have mx : ∀ {l m : List Int}, l ≠ [] → m ≠ [] → mxL (l ++ m) = max (mxL l) (mxL m) := fun {l m} h1 h2 => by
  obtain ⟨a1, a2⟩ := mxL_spec h1
  obtain ⟨b1, b2⟩ := mxL_spec h2
  obtain ⟨c1, c2⟩ := mxL_spec (l := l ++ m) (by simp [h1])
  have d1 := c2 _ (List.mem_append_left _ a1)
  have d2 := c2 _ (List.mem_append_right _ b1)
  rcases List.mem_append.1 c1 with h | h
  ·have := a2 _ h; omega
  ·have := b2 _ h; omega
 have cA : cols A ≠ [] := by simpa [cols] using hA
 have cB : cols B ≠ [] := by simpa [cols] using hB
 have rA : rws A ≠ [] := by simpa [rws] using hA
 have rB : rws B ≠ [] := by simpa [rws] using hB
 have e1 : cols (A ++ B) = cols A ++ cols B := by simp [cols]
 have e2 : rws (A ++ B) = rws A ++ rws B := by simp [rws]
 unfold x0 x1 y0 y1
 rw [e1, e2]
 exact ⟨mn cA cB, mx cA cB, mn rA rB, mx rA rB⟩
end Go.Proofs.YtniolldgidgffaaGreatDoor

/- Grids of layers; what is wrong with layers, by value. -/
-- NEWM
namespace Go.Proofs.YtniolldgidgffaaGreatDoor
open Go Go.RowKit
set_option maxRecDepth 100000
abbrev gR (l : List (Value × Value × Grd)) : List (List CV) := l.map fun p => [.p p.1 (gRow p.2.2 p.2.1)]
set_option maxHeartbeats 1000000 in
theorem grids_v (va : Value) (l : List (Value × Cel)) (hok : ∀ p ∈ l, RCel p.2) (hl : l.length ≤ 1000) : ACalls Tryz.prog 134 [.c (.r va (cR l))] [] fun u H => ∃ (w : Value) (gs : List (Value × Value × Grd)), u = .c (.r w (gR gs)) ∧ gs.map (fun p => p.2.2) = l.map (fun p => grdOf p.2) ∧ H = [] := by
 have e1 : (cR l).length = l.length := by simp
 refine acalls_of (N := 19) Tryz.func134 rfl rfl (by simp) fun E hE => ?_
 refine WA ?_
 refine WA ?_
 refine WA ?_
 refine aw_loopw (fun m F H => ∃ (k c : Nat) (gs : List (Value × Value × Grd)), m + k = l.length ∧ gs.map (fun p => p.2.2) = (l.take k).map (fun p => grdOf p.2) ∧ F = [(3, .o 0 0 gs.length c), (6, .c (.r va (cR l))), (7, .c (I (cR l).length)), (8, .c (I k))] ∧ H = [.arr 95 1 c (gR gs)]) ?_ ?_
 ·refine wk_of [none] (fun _ => [(3, .o 0 0 0 0), (6, .c (.r va (cR l))), (7, .c (I (cR l).length)), (8, .c (I (0 : Nat)))]) (fun _ => [.arr 95 1 0 (gR [])]) (by decide) (ZNL hE) ZCF ZCH (fun _ => ?_)
  exact ⟨l.length, 0, 0, [], by omega, rfl, rfl, rfl⟩
 rintro m F H ⟨k, c, gs, hk, hgs, rfl, rfl⟩
 have hgl : gs.length = k := by have := congrArg List.length hgs; simp only [List.length_map, List.length_take] at this; omega
 refine WA ?_
 refine aw_if rfl (fun hlt => ?_) (fun hge => ?_)
 ·obtain ⟨⟨va', ca⟩, hz⟩ : ∃ e, l[k]? = some e := ⟨_, List.getElem?_eq_getElem (by omega)⟩
  have hrow : (cR l)[k]? = some (celR va' ca) := by rw [List.getElem?_map, hz]; rfl
  have hca : RCel ca := hok _ (List.mem_of_getElem? hz)
  have hnx : (l.take (k + 1)).map (fun p => grdOf p.2) = (l.take k).map (fun p => grdOf p.2) ++ [grdOf ca] := by rw [List.take_add_one, hz, List.map_append]; rfl
  refine WA ?_
  refine WR ?_
  refine al_ef rfl (ef_call0 false (fun _ => gridof_v va' ca hca) rfl .fn rfl (by decide) (by kernel_rfl) rfl (fun _ => C0 rfl) (by simp)) ?_
  rintro _ _ ⟨_, _, _, ⟨pv, ov, rfl, rfl⟩, hF, hH⟩
  (refine NST hF hH ?_; clear hF hH; rintro rfl rfl)
  refine WO ?_
  refine al_ef rfl (Zapp (KA (t := 205) rfl)) ?_
  rintro _ _ ⟨_, cc, hcc, rfl, rfl⟩
  refine WE ?_
  refine WA ?_
  refine wk_of [some 0] (fun _ => [(3, .o 0 0 (gs ++ [(pv, ov, grdOf ca)]).length cc), (6, .c (.r va (cR l))), (7, .c (I (cR l).length)), (8, .c (I (k + 1 : Nat)))]) (fun _ => [.arr 95 1 cc (gR (gs ++ [(pv, ov, grdOf ca)]))]) (by decide) (ZNL hE) ZCF ZCH (fun _ => ?_)
  exact ⟨m - 1, by omega, k + 1, cc, gs ++ [(pv, ov, grdOf ca)], by omega, by rw [hnx, List.map_append, hgs]; rfl, rfl, rfl⟩
 obtain rfl : k = l.length := by omega
 rw [List.take_of_length_le (Nat.le_refl _)] at hgs
 refine ZZ ?_
 refine WA ?_
 exact aret_of (us := [.o 0 0 gs.length c]) [] (fun f => .c (.r (f (.o 0 0 gs.length c)) (gR gs))) (fun _ => []) (.tmp rfl .nil) (by decide) (fun i hi => absurd hi (Nat.not_lt_zero i)) (fun g' => .frz rfl rfl (by rw [List.drop_zero, List.take_of_length_le (by simp)]) (by simp) rfl) (fun _ => .nil) (fun g' => ⟨_, gs, rfl, hgs, rfl⟩)
end Go.Proofs.YtniolldgidgffaaGreatDoor

/- What is wrong with layers and styles, by value. -/
-- NEWM
namespace Go.Proofs.YtniolldgidgffaaGreatDoor
open Go Go.RowKit
set_option maxRecDepth 100000
theorem isstack_v (n : Int) : ACalls Tryz.prog 136 [.c (I n)] [] fun u H => u = .c (B (!outB n 0 50)) ∧ H = [] := by
 obtain ⟨b, ho⟩ : ∃ b, outB n 0 50 = b := ⟨_, rfl⟩
 rw [ho]
 refine acalls_of (N := 6) Tryz.func136 rfl rfl (by simp) fun E hE => ?_
 repeat' (first
  | (with_reducible refine aw_seq ?_) | (with_reducible refine aseq_n ?_) | (with_reducible refine aseq_r ?_) | (with_reducible refine ablk_n ?_) | (with_reducible refine ablk_r ?_) | (with_reducible refine ablk_e ?_) | (with_reducible refine ablk_o rfl ?_) | (with_reducible refine aseq_e ?_) | (with_reducible refine aw_skip ?_) | (with_reducible refine aw_block ?_) | (with_reducible refine aw_ret ?_) | (with_reducible refine aw_exit ?_)
  | refine aw_cond_t rfl ?_ | refine aw_cond_f rfl ?_ | refine aw_if_t rfl (by assumption) ?_ | refine aw_if_f rfl (by assumption) ?_ | refine aw_if rfl (fun _ => ?_) (fun _ => ?_) | refine aw_cond rfl (fun _ => ?_) (fun _ => ?_)
  | (refine aw_region (id := 1) ?_
     refine WO ?_
     refine al_ef rfl (ef_call0 false (fun _ => out_v _ _ _) rfl .fn rfl (by decide) (by kernel_rfl) rfl (fun _ => C0 rfl) (by simp)) ?_
     rintro _ _ ⟨_, _, _, ⟨rfl, rfl⟩, hF, hH⟩
     rw [ho] at hF
     (refine NST hF hH ?_; clear hF hH; rintro rfl rfl)
     refine WE ?_)
  | (refine aw_region ?_; refine WE ?_))
 exact aret_1 [] _ rfl rfl rfl (by decide) (ZNK rfl) (fun _ => .nil) ⟨rfl, rfl⟩
def layG (st : Int) : List Cel → Int
 | [] => 0
 | c :: l => if celF c ≠ 0 then celF c else if c.st ≠ st then 3 else layG st l
def layF (l : List Cel) : Int := if 50 < l.length then 2 else layG ((l.map (·.st)).headD 0) l
theorem layG_drop {st : Int} {l : List Cel} {k : Nat} {c : Cel} (h : l[k]? = some c) : layG st (l.drop k) = if celF c ≠ 0 then celF c else if c.st ≠ st then 3 else layG st (l.drop (k + 1)) := by
 obtain ⟨hk, rfl⟩ := List.getElem?_eq_some_iff.1 h
 rw [List.drop_eq_getElem_cons hk]; rfl
set_option maxHeartbeats 1000000 in
theorem layersfault_v (va : Value) (l : List (Value × Cel)) (hsz : ∀ p ∈ l, p.2.rows.length ≤ 1000000000 ∧ ∀ r ∈ p.2.rows, r.length ≤ 1000000000) (hl : l.length ≤ 1000000) : ACalls Tryz.prog 132 [.c (.r va (cR l))] [] fun u H => u = .c (I (layF (l.map Prod.snd))) ∧ H = [] := by
 have e1 : (cR l).length = l.length := by simp
 have hlf : layF (l.map Prod.snd) = if 50 < l.length then 2 else layG (((l.map Prod.snd).map (·.st)).headD 0) (l.map Prod.snd) := by rw [layF, List.length_map]
 refine acalls_of (N := 28) Tryz.func132 rfl rfl (by simp) fun E hE => ?_
 refine WA ?_
 refine WA ?_
 refine aw_if rfl (fun h1 => ?_) (fun h1 => ?_)
 ·refine WA ?_
  exact aret_1 [] _ rfl rfl rfl (by decide) (ZNK rfl) (fun _ => .nil) ⟨congrArg (fun z => AV.c (I z)) (by rw [hlf, if_pos (by omega)]), rfl⟩
 rw [if_neg (by omega)] at hlf
 generalize hst : ((l.map Prod.snd).map (·.st)).headD 0 = st at *
 refine ZZ ?_
 refine WA ?_
 refine aw_loopw (fun m F H => ∃ k : Nat, m + k = l.length ∧ layG st ((l.map Prod.snd).drop k) = layG st (l.map Prod.snd) ∧ F = [(0, .c (.r va (cR l))), (9, .c (.r va (cR l))), (10, .c (I (cR l).length)), (11, .c (I k))] ∧ H = []) ?_ ?_
 ·refine wk_of [] (fun _ => [(0, .c (.r va (cR l))), (9, .c (.r va (cR l))), (10, .c (I (cR l).length)), (11, .c (I (0 : Nat)))]) (fun _ => []) (by decide) (ZNL hE) ZCF (fun _ => .nil) (fun _ => ?_)
  exact ⟨l.length, 0, by omega, rfl, rfl, rfl⟩
 rintro m F H ⟨k, hk, hd, rfl, rfl⟩
 refine WA ?_
 refine aw_if rfl (fun hlt => ?_) (fun hge => ?_)
 ·obtain ⟨⟨va', ca⟩, hz⟩ : ∃ e, l[k]? = some e := ⟨_, List.getElem?_eq_getElem (by omega)⟩
  obtain ⟨⟨v0, c0⟩, hz0⟩ : ∃ e, l[0]? = some e := ⟨_, List.getElem?_eq_getElem (by omega)⟩
  have hrow : (cR l)[k]? = some (celR va' ca) := by rw [List.getElem?_map, hz]; rfl
  have hrow0 : (cR l)[0]? = some (celR v0 c0) := by rw [List.getElem?_map, hz0]; rfl
  have hs0 : st = c0.st := by
   rw [← hst]
   cases l with
   | nil => cases hz0
   | cons a l => injection hz0 with e; rw [e]; rfl
  have hzm : (l.map Prod.snd)[k]? = some ca := by rw [List.getElem?_map, hz]; rfl
  have hdr := layG_drop (st := st) hzm
  obtain ⟨q, hq⟩ : ∃ q, celF ca = q := ⟨_, rfl⟩
  rw [hq] at hdr
  refine WA ?_
  refine WR ?_
  refine al_ef rfl (ef_call0 false (fun _ => check_v va' ca (hsz _ (List.mem_of_getElem? hz)).1 (hsz _ (List.mem_of_getElem? hz)).2) rfl .fn rfl (by decide) (by kernel_rfl) rfl (fun _ => C0 rfl) (by simp)) ?_
  rintro _ _ ⟨_, _, _, ⟨rfl, rfl⟩, hF, hH⟩
  rw [hq] at hF
  (refine NST hF hH ?_; clear hF hH; rintro rfl rfl)
  refine WE ?_
  refine WA ?_
  refine aw_if rfl (fun h2 => ?_) (fun h2 => ?_)
  ·refine WA ?_
   exact aret_1 [] _ rfl rfl rfl (by decide) (ZNK rfl) (fun _ => .nil) ⟨congrArg (fun z => AV.c (I z)) (by rw [hlf, ← hd, hdr, if_pos h2]), rfl⟩
  rw [if_neg h2] at hdr
  refine ZZ ?_
  refine aw_regionT [(0, none), (1, none), (2, none), (3, none), (4, none), (5, none), (6, none)] hMixed (by kernel_rfl) ?_
  refine WQ ?_
  refine aw_if rfl (fun h3 => ?_) (fun h3 => ?_)
  ·refine WA ?_
   exact aret_1 [] _ rfl rfl rfl (by decide) (ZNK rfl) (fun _ => .nil) ⟨congrArg (fun z => AV.c (I z)) (by rw [hlf, ← hd, hdr, if_pos (by rw [hs0]; exact h3)]), rfl⟩
  rw [if_neg (by rw [hs0]; exact h3)] at hdr
  refine ZZ ?_
  refine WA ?_
  refine wk_of [] (fun _ => [(0, .c (.r va (cR l))), (9, .c (.r va (cR l))), (10, .c (I (cR l).length)), (11, .c (I (k + 1 : Nat)))]) (fun _ => []) (by decide) (ZNL hE) ZCF (fun _ => .nil) (fun _ => ?_)
  exact ⟨m - 1, by omega, k + 1, by omega, by rw [← hd, hdr], rfl, rfl⟩
 obtain rfl : k = l.length := by omega
 refine ZZ ?_
 refine WA ?_
 exact aret_1 [] _ rfl rfl rfl (by decide) (ZNK rfl) (fun _ => .nil) ⟨congrArg (fun z => AV.c (I z)) (by rw [hlf, ← hd, List.drop_eq_nil_of_le (by simp)]; rfl), rfl⟩
def styF (w t b e : Int) : Int := if (outB w 0 10 || outB t 0 50 || outB b 0 50 || outB e 1 200) = true then 1 else 0
set_option maxHeartbeats 1000000 in
theorem style_v (w t b e : Int) : ACalls Tryz.prog 133 [.a [.c (I w), .c (I t), .c (I b), .c (I e)]] [] fun u H => u = .c (I (styF w t b e)) ∧ H = [] := by
 obtain ⟨b1, h1⟩ : ∃ q, outB w 0 10 = q := ⟨_, rfl⟩
 obtain ⟨b2, h2⟩ : ∃ q, outB t 0 50 = q := ⟨_, rfl⟩
 obtain ⟨b3, h3⟩ : ∃ q, outB b 0 50 = q := ⟨_, rfl⟩
 obtain ⟨b4, h4⟩ : ∃ q, outB e 1 200 = q := ⟨_, rfl⟩
 rw [styF, h1, h2, h3, h4]
 refine acalls_of (N := 23) Tryz.func133 rfl rfl (by simp) fun E hE => ?_
 cases b1 with
 | true =>
  refine WA ?_
  refine WR ?_
  refine al_ef rfl (ef_call0 false (fun _ => out_v _ _ _) rfl .fn rfl (by decide) (by kernel_rfl) rfl (fun _ => C0 rfl) (by simp)) ?_
  rintro _ _ ⟨_, _, _, ⟨rfl, rfl⟩, hF, hH⟩
  rw [h1] at hF
  (refine NST hF hH ?_; clear hF hH; rintro rfl rfl)
  refine WO ?_
  first | refine ZS ?_ | (refine G1 rfl ?_; refine al_ef rfl (ef_call0 false (fun _ => isstack_v _) rfl .fn rfl (by decide) (by kernel_rfl) rfl (fun _ => C0 rfl) (by simp)) ?_; rintro _ _ ⟨_, _, _, ⟨rfl, rfl⟩, hF, hH⟩; rw [h2] at hF; (refine NST hF hH ?_; clear hF hH; rintro rfl rfl)) | skip
  refine WO ?_
  first | refine ZS ?_ | (refine G1 rfl ?_; refine al_ef rfl (ef_call0 false (fun _ => isstack_v _) rfl .fn rfl (by decide) (by kernel_rfl) rfl (fun _ => C0 rfl) (by simp)) ?_; rintro _ _ ⟨_, _, _, ⟨rfl, rfl⟩, hF, hH⟩; rw [h3] at hF; (refine NST hF hH ?_; clear hF hH; rintro rfl rfl)) | skip
  refine WO ?_
  first | refine ZS ?_ | (refine G1 rfl ?_; refine al_ef rfl (ef_call0 false (fun _ => out_v _ _ _) rfl .fn rfl (by decide) (by kernel_rfl) rfl (fun _ => C0 rfl) (by simp)) ?_; rintro _ _ ⟨_, _, _, ⟨rfl, rfl⟩, hF, hH⟩; rw [h4] at hF; (refine NST hF hH ?_; clear hF hH; rintro rfl rfl)) | skip
  refine WE ?_
  refine aw_cond_t rfl ?_
  refine WA ?_
  exact aret_1 [] _ rfl rfl rfl (by decide) (ZNK rfl) (fun _ => .nil) ⟨rfl, rfl⟩
 | false =>
 cases b2 with
 | true =>
  refine WA ?_
  refine WR ?_
  refine al_ef rfl (ef_call0 false (fun _ => out_v _ _ _) rfl .fn rfl (by decide) (by kernel_rfl) rfl (fun _ => C0 rfl) (by simp)) ?_
  rintro _ _ ⟨_, _, _, ⟨rfl, rfl⟩, hF, hH⟩
  rw [h1] at hF
  (refine NST hF hH ?_; clear hF hH; rintro rfl rfl)
  refine WO ?_
  first | refine ZS ?_ | (refine G1 rfl ?_; refine al_ef rfl (ef_call0 false (fun _ => isstack_v _) rfl .fn rfl (by decide) (by kernel_rfl) rfl (fun _ => C0 rfl) (by simp)) ?_; rintro _ _ ⟨_, _, _, ⟨rfl, rfl⟩, hF, hH⟩; rw [h2] at hF; (refine NST hF hH ?_; clear hF hH; rintro rfl rfl)) | skip
  refine WO ?_
  first | refine ZS ?_ | (refine G1 rfl ?_; refine al_ef rfl (ef_call0 false (fun _ => isstack_v _) rfl .fn rfl (by decide) (by kernel_rfl) rfl (fun _ => C0 rfl) (by simp)) ?_; rintro _ _ ⟨_, _, _, ⟨rfl, rfl⟩, hF, hH⟩; rw [h3] at hF; (refine NST hF hH ?_; clear hF hH; rintro rfl rfl)) | skip
  refine WO ?_
  first | refine ZS ?_ | (refine G1 rfl ?_; refine al_ef rfl (ef_call0 false (fun _ => out_v _ _ _) rfl .fn rfl (by decide) (by kernel_rfl) rfl (fun _ => C0 rfl) (by simp)) ?_; rintro _ _ ⟨_, _, _, ⟨rfl, rfl⟩, hF, hH⟩; rw [h4] at hF; (refine NST hF hH ?_; clear hF hH; rintro rfl rfl)) | skip
  refine WE ?_
  refine aw_cond_t rfl ?_
  refine WA ?_
  exact aret_1 [] _ rfl rfl rfl (by decide) (ZNK rfl) (fun _ => .nil) ⟨rfl, rfl⟩
 | false =>
 cases b3 with
 | true =>
  refine WA ?_
  refine WR ?_
  refine al_ef rfl (ef_call0 false (fun _ => out_v _ _ _) rfl .fn rfl (by decide) (by kernel_rfl) rfl (fun _ => C0 rfl) (by simp)) ?_
  rintro _ _ ⟨_, _, _, ⟨rfl, rfl⟩, hF, hH⟩
  rw [h1] at hF
  (refine NST hF hH ?_; clear hF hH; rintro rfl rfl)
  refine WO ?_
  first | refine ZS ?_ | (refine G1 rfl ?_; refine al_ef rfl (ef_call0 false (fun _ => isstack_v _) rfl .fn rfl (by decide) (by kernel_rfl) rfl (fun _ => C0 rfl) (by simp)) ?_; rintro _ _ ⟨_, _, _, ⟨rfl, rfl⟩, hF, hH⟩; rw [h2] at hF; (refine NST hF hH ?_; clear hF hH; rintro rfl rfl)) | skip
  refine WO ?_
  first | refine ZS ?_ | (refine G1 rfl ?_; refine al_ef rfl (ef_call0 false (fun _ => isstack_v _) rfl .fn rfl (by decide) (by kernel_rfl) rfl (fun _ => C0 rfl) (by simp)) ?_; rintro _ _ ⟨_, _, _, ⟨rfl, rfl⟩, hF, hH⟩; rw [h3] at hF; (refine NST hF hH ?_; clear hF hH; rintro rfl rfl)) | skip
  refine WO ?_
  first | refine ZS ?_ | (refine G1 rfl ?_; refine al_ef rfl (ef_call0 false (fun _ => out_v _ _ _) rfl .fn rfl (by decide) (by kernel_rfl) rfl (fun _ => C0 rfl) (by simp)) ?_; rintro _ _ ⟨_, _, _, ⟨rfl, rfl⟩, hF, hH⟩; rw [h4] at hF; (refine NST hF hH ?_; clear hF hH; rintro rfl rfl)) | skip
  refine WE ?_
  refine aw_cond_t rfl ?_
  refine WA ?_
  exact aret_1 [] _ rfl rfl rfl (by decide) (ZNK rfl) (fun _ => .nil) ⟨rfl, rfl⟩
 | false =>
 cases b4 with
 | true =>
  refine WA ?_
  refine WR ?_
  refine al_ef rfl (ef_call0 false (fun _ => out_v _ _ _) rfl .fn rfl (by decide) (by kernel_rfl) rfl (fun _ => C0 rfl) (by simp)) ?_
  rintro _ _ ⟨_, _, _, ⟨rfl, rfl⟩, hF, hH⟩
  rw [h1] at hF
  (refine NST hF hH ?_; clear hF hH; rintro rfl rfl)
  refine WO ?_
  first | refine ZS ?_ | (refine G1 rfl ?_; refine al_ef rfl (ef_call0 false (fun _ => isstack_v _) rfl .fn rfl (by decide) (by kernel_rfl) rfl (fun _ => C0 rfl) (by simp)) ?_; rintro _ _ ⟨_, _, _, ⟨rfl, rfl⟩, hF, hH⟩; rw [h2] at hF; (refine NST hF hH ?_; clear hF hH; rintro rfl rfl)) | skip
  refine WO ?_
  first | refine ZS ?_ | (refine G1 rfl ?_; refine al_ef rfl (ef_call0 false (fun _ => isstack_v _) rfl .fn rfl (by decide) (by kernel_rfl) rfl (fun _ => C0 rfl) (by simp)) ?_; rintro _ _ ⟨_, _, _, ⟨rfl, rfl⟩, hF, hH⟩; rw [h3] at hF; (refine NST hF hH ?_; clear hF hH; rintro rfl rfl)) | skip
  refine WO ?_
  first | refine ZS ?_ | (refine G1 rfl ?_; refine al_ef rfl (ef_call0 false (fun _ => out_v _ _ _) rfl .fn rfl (by decide) (by kernel_rfl) rfl (fun _ => C0 rfl) (by simp)) ?_; rintro _ _ ⟨_, _, _, ⟨rfl, rfl⟩, hF, hH⟩; rw [h4] at hF; (refine NST hF hH ?_; clear hF hH; rintro rfl rfl)) | skip
  refine WE ?_
  refine aw_cond_t rfl ?_
  refine WA ?_
  exact aret_1 [] _ rfl rfl rfl (by decide) (ZNK rfl) (fun _ => .nil) ⟨rfl, rfl⟩
 | false =>
  refine WA ?_
  refine WR ?_
  refine al_ef rfl (ef_call0 false (fun _ => out_v _ _ _) rfl .fn rfl (by decide) (by kernel_rfl) rfl (fun _ => C0 rfl) (by simp)) ?_
  rintro _ _ ⟨_, _, _, ⟨rfl, rfl⟩, hF, hH⟩
  rw [h1] at hF
  (refine NST hF hH ?_; clear hF hH; rintro rfl rfl)
  refine WO ?_
  first | refine ZS ?_ | (refine G1 rfl ?_; refine al_ef rfl (ef_call0 false (fun _ => isstack_v _) rfl .fn rfl (by decide) (by kernel_rfl) rfl (fun _ => C0 rfl) (by simp)) ?_; rintro _ _ ⟨_, _, _, ⟨rfl, rfl⟩, hF, hH⟩; rw [h2] at hF; (refine NST hF hH ?_; clear hF hH; rintro rfl rfl)) | skip
  refine WO ?_
  first | refine ZS ?_ | (refine G1 rfl ?_; refine al_ef rfl (ef_call0 false (fun _ => isstack_v _) rfl .fn rfl (by decide) (by kernel_rfl) rfl (fun _ => C0 rfl) (by simp)) ?_; rintro _ _ ⟨_, _, _, ⟨rfl, rfl⟩, hF, hH⟩; rw [h3] at hF; (refine NST hF hH ?_; clear hF hH; rintro rfl rfl)) | skip
  refine WO ?_
  first | refine ZS ?_ | (refine G1 rfl ?_; refine al_ef rfl (ef_call0 false (fun _ => out_v _ _ _) rfl .fn rfl (by decide) (by kernel_rfl) rfl (fun _ => C0 rfl) (by simp)) ?_; rintro _ _ ⟨_, _, _, ⟨rfl, rfl⟩, hF, hH⟩; rw [h4] at hF; (refine NST hF hH ?_; clear hF hH; rintro rfl rfl)) | skip
  refine WE ?_
  refine aw_cond_f rfl ?_
  refine ZZ ?_
  refine WA ?_
  exact aret_1 [] _ rfl rfl rfl (by decide) (ZNK rfl) (fun _ => .nil) ⟨rfl, rfl⟩
end Go.Proofs.YtniolldgidgffaaGreatDoor
