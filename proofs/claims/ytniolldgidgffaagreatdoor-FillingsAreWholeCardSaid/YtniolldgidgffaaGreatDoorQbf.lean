/- Walks through strings; sets of spots in the logic. -/
import Derived.Test.YtniolldgidgffaaGreatDoorQbe
import Derived.Test.YtniolldgidgffaaGreatDoorQbc
import Derived.Test.YtniolldgidgffaaGreatDoorQao
set_option linter.unusedSimpArgs false
set_option linter.unusedVariables false
/- Solid, by value. -/
-- NEWM
namespace Go.Proofs.YtniolldgidgffaaGreatDoor
open Go Go.RowKit
set_option maxRecDepth 100000
theorem grids_at {l : List (Value × Cel)} {gs : List (Value × Value × Grd)} (hok : ∀ p ∈ l, RCel p.2) (h : gs.map (fun p => p.2.2) = l.map (fun p => grdOf p.2)) (k : Nat) (p : Value × Value × Grd) (hp : gs[k]? = some p) : ∃ va c, l[k]? = some (va, c) ∧ RCel c ∧ p.2.2 = grdOf c ∧ ((l.map fun p => covL p.2).getD k []) = covL c := by
 have h1 : (gs.map (fun p => p.2.2))[k]? = some p.2.2 := by rw [List.getElem?_map, hp]; rfl
 rw [h, List.getElem?_map] at h1
 obtain ⟨⟨va, c⟩, h2, h3⟩ := Option.map_eq_some_iff.1 h1
 exact ⟨va, c, h2, hok _ (List.mem_of_getElem? h2), h3.symm, by rw [List.getD_eq_getElem?_getD, List.getElem?_map, h2]; rfl⟩
def solL (l : List Cel) (i : Nat) (tp bo : Int) : List Spot := ((l.map covL).getD i []).filter fun q => !nearL (l.map covL) i tp bo q
def solF (l : List Cel) (ly tp bo : Int) : Int := if layF l ≠ 0 then layF l else if ly < 0 ∨ (l.length : Int) ≤ ly then 8 else if (outB tp 0 50 || outB bo 0 50) = true then 1 else 0
theorem layF_ok {l : List (Value × Cel)} (h : layF (l.map Prod.snd) = 0) : l.length ≤ 50 ∧ ∀ p ∈ l, RCel p.2 ∧ ∀ p' ∈ l, p'.2.st = p.2.st := by
 unfold layF at h
 split at h
 ·cases h
 rename_i h1
 rw [List.length_map] at h1
 have key : ∀ (st : Int) (cs : List Cel), layG st cs = 0 → ∀ c ∈ cs, RCel c ∧ c.st = st := by
  intro st cs
  induction cs with
  | nil => intro _ c hc; cases hc
  | cons c cs ih =>
   intro h c' hc'
   unfold layG at h
   split at h
   ·rename_i h2; exact absurd h h2
   rename_i h2
   split at h
   ·cases h
   rename_i h3
   rcases List.mem_cons.1 hc' with rfl | hc'
   ·exact ⟨celF_0.1 (by simpa using h2), by simpa using h3⟩
   ·exact ih h c' hc'
 refine ⟨by omega, fun p hp => ?_⟩
 have k1 := key _ _ h p.2 (List.mem_map_of_mem hp)
 exact ⟨k1.1, fun p' hp' => (key _ _ h p'.2 (List.mem_map_of_mem hp')).2.trans k1.2.symm⟩
set_option maxHeartbeats 2000000 in
theorem solidT_v (va : Value) (l : List (Value × Cel)) (ly tp bo : Int) (hsz : ∀ p ∈ l, p.2.rows.length ≤ 1000000000 ∧ ∀ r ∈ p.2.rows, r.length ≤ 1000000000) (hl : l.length ≤ 1000000) (hnr : ∀ p ∈ l, RCel p.2 → NCel p.2) : ACalls Tryz.prog 55 [.c (.r va (cR l)), .c (I ly), .c (I tp), .c (I bo)] [] fun u H => ∃ (v : Value) (S : Cel), u = .t [celA v S, .c (I (solF (l.map Prod.snd) ly tp bo))] ∧ (solF (l.map Prod.snd) ly tp bo ≠ 0 → S = ⟨0, 0, 0, []⟩) ∧ (solF (l.map Prod.snd) ly tp bo = 0 → (∀ p ∈ l, NCel p.2) ∧ ∃ (i : Nat) (c : Cel), ly = i ∧ (l.map Prod.snd)[i]? = some c ∧ S = celN c.st (solL (l.map Prod.snd) i tp bo)) ∧ H = [] := by
 have e1 : (cR l).length = l.length := by simp
 obtain ⟨q, hq⟩ : ∃ q, layF (l.map Prod.snd) = q := ⟨_, rfl⟩
 have hsf : solF (l.map Prod.snd) ly tp bo = if q ≠ 0 then q else if ly < 0 ∨ (l.length : Int) ≤ ly then 8 else if (outB tp 0 50 || outB bo 0 50) = true then 1 else 0 := by rw [solF, hq, List.length_map]
 rw [hsf]
 refine acalls_of (N := 44) Tryz.func55 rfl rfl (by simp) fun E hE => ?_
 refine WA ?_
 refine WR ?_
 refine al_ef rfl (ef_call0 false (fun _ => layersfault_v va l hsz (by omega)) rfl .fn rfl (by decide) (by kernel_rfl) rfl (fun _ => C0 rfl) (by simp)) ?_
 rintro _ _ ⟨_, _, _, ⟨rfl, rfl⟩, hF, hH⟩
 rw [hq] at hF
 (refine NST hF hH ?_; clear hF hH; rintro rfl rfl)
 refine WE ?_
 refine WA ?_
 refine aw_if rfl (fun h1 => ?_) (fun h1 => ?_)
 ·rw [if_pos h1]
  refine WA ?_
  exact aret_of (us := [.a [.c (I 0), .c (I 0), .c (I 0), .c (.r (.slice none 0 0) [])], .c (I q)]) [] (fun _ => .t [.a [.c (I 0), .c (I 0), .c (I 0), .c (.r (.slice none 0 0) [])], .c (I q)]) (fun _ => []) (.cella (n := 4) rfl (by kernel_rfl) (Cells.box rfl) (by simp) (by (try simp only [nm, putL, Nat.reduceAdd, cellsOf, cvOf]) <;> rfl) (.tmp rfl .nil)) (by decide) (fun i hi => absurd hi (Nat.not_lt_zero i)) (fun g' => .tL (.cons (.aL (.cons (.c rfl) (.cons (.c rfl) (.cons (.c rfl) (.cons (.c rfl) .nil))))) (.cons (.c rfl) .nil))) (fun _ => .nil) (fun g' => ⟨.slice none 0 0, ⟨0, 0, 0, []⟩, rfl, fun _ => rfl, fun e => absurd e h1, rfl⟩)
 rw [if_neg h1]
 obtain rfl : q = 0 := by omega
 obtain ⟨hl5, hlk⟩ := layF_ok hq
 have hok : ∀ p ∈ l, RCel p.2 := fun p hp => (hlk p hp).1
 refine ZZ ?_
 by_cases hly0 : ly < 0
 ·rw [if_pos (.inl hly0)]
  refine WA ?_
  refine aw_cond_t rfl ?_
  refine WA ?_
  exact aret_of (us := [.a [.c (I 0), .c (I 0), .c (I 0), .c (.r (.slice none 0 0) [])], .c (I 8)]) [] (fun _ => .t [.a [.c (I 0), .c (I 0), .c (I 0), .c (.r (.slice none 0 0) [])], .c (I 8)]) (fun _ => []) (.cella (n := 4) rfl (by kernel_rfl) (Cells.box rfl) (by simp) (by (try simp only [nm, putL, Nat.reduceAdd, cellsOf, cvOf]) <;> rfl) (.tmp rfl .nil)) (by decide) (fun i hi => absurd hi (Nat.not_lt_zero i)) (fun g' => .tL (.cons (.aL (.cons (.c rfl) (.cons (.c rfl) (.cons (.c rfl) (.cons (.c rfl) .nil))))) (.cons (.c rfl) .nil))) (fun _ => .nil) (fun g' => ⟨.slice none 0 0, ⟨0, 0, 0, []⟩, rfl, fun _ => rfl, fun e => absurd e (by decide), rfl⟩)
 by_cases hly1 : (l.length : Int) ≤ ly
 ·rw [if_pos (.inr hly1)]
  refine WA ?_
  refine aw_cond_t rfl ?_
  refine WA ?_
  exact aret_of (us := [.a [.c (I 0), .c (I 0), .c (I 0), .c (.r (.slice none 0 0) [])], .c (I 8)]) [] (fun _ => .t [.a [.c (I 0), .c (I 0), .c (I 0), .c (.r (.slice none 0 0) [])], .c (I 8)]) (fun _ => []) (.cella (n := 4) rfl (by kernel_rfl) (Cells.box rfl) (by simp) (by (try simp only [nm, putL, Nat.reduceAdd, cellsOf, cvOf]) <;> rfl) (.tmp rfl .nil)) (by decide) (fun i hi => absurd hi (Nat.not_lt_zero i)) (fun g' => .tL (.cons (.aL (.cons (.c rfl) (.cons (.c rfl) (.cons (.c rfl) (.cons (.c rfl) .nil))))) (.cons (.c rfl) .nil))) (fun _ => .nil) (fun g' => ⟨.slice none 0 0, ⟨0, 0, 0, []⟩, rfl, fun _ => rfl, fun e => absurd e (by decide), rfl⟩)
 rw [if_neg (by omega)]
 refine WA ?_
 refine aw_cond_f rfl ?_
 refine ZZ ?_
 obtain ⟨b1, o1⟩ : ∃ b, outB tp 0 50 = b := ⟨_, rfl⟩
 obtain ⟨b2, o2⟩ : ∃ b, outB bo 0 50 = b := ⟨_, rfl⟩
 rw [o1, o2]
 cases b1 with
 | true =>
  refine WR ?_
  refine al_ef rfl (ef_call0 false (fun _ => isstack_v _) rfl .fn rfl (by decide) (by kernel_rfl) rfl (fun _ => C0 rfl) (by simp)) ?_
  rintro _ _ ⟨_, _, _, ⟨rfl, rfl⟩, hF, hH⟩
  rw [o1] at hF
  (refine NST hF hH ?_; clear hF hH; rintro rfl rfl)
  refine WO ?_
  first | refine ZS ?_ | (refine G1 rfl ?_; refine al_ef rfl (ef_call0 false (fun _ => isstack_v _) rfl .fn rfl (by decide) (by kernel_rfl) rfl (fun _ => C0 rfl) (by simp)) ?_; rintro _ _ ⟨_, _, _, ⟨rfl, rfl⟩, hF, hH⟩; rw [o2] at hF; (refine NST hF hH ?_; clear hF hH; rintro rfl rfl)) | skip
  refine WE ?_
  refine aw_cond_t rfl ?_
  refine WA ?_
  exact aret_of (us := [.a [.c (I 0), .c (I 0), .c (I 0), .c (.r (.slice none 0 0) [])], .c (I 1)]) [] (fun _ => .t [.a [.c (I 0), .c (I 0), .c (I 0), .c (.r (.slice none 0 0) [])], .c (I 1)]) (fun _ => []) (.cella (n := 4) rfl (by kernel_rfl) (Cells.box rfl) (by simp) (by (try simp only [nm, putL, Nat.reduceAdd, cellsOf, cvOf]) <;> rfl) (.tmp rfl .nil)) (by decide) (fun i hi => absurd hi (Nat.not_lt_zero i)) (fun g' => .tL (.cons (.aL (.cons (.c rfl) (.cons (.c rfl) (.cons (.c rfl) (.cons (.c rfl) .nil))))) (.cons (.c rfl) .nil))) (fun _ => .nil) (fun g' => ⟨.slice none 0 0, ⟨0, 0, 0, []⟩, rfl, fun _ => rfl, fun e => absurd e (by simp), rfl⟩)
 | false =>
 cases b2 with
 | true =>
  refine WR ?_
  refine al_ef rfl (ef_call0 false (fun _ => isstack_v _) rfl .fn rfl (by decide) (by kernel_rfl) rfl (fun _ => C0 rfl) (by simp)) ?_
  rintro _ _ ⟨_, _, _, ⟨rfl, rfl⟩, hF, hH⟩
  rw [o1] at hF
  (refine NST hF hH ?_; clear hF hH; rintro rfl rfl)
  refine WO ?_
  first | refine ZS ?_ | (refine G1 rfl ?_; refine al_ef rfl (ef_call0 false (fun _ => isstack_v _) rfl .fn rfl (by decide) (by kernel_rfl) rfl (fun _ => C0 rfl) (by simp)) ?_; rintro _ _ ⟨_, _, _, ⟨rfl, rfl⟩, hF, hH⟩; rw [o2] at hF; (refine NST hF hH ?_; clear hF hH; rintro rfl rfl)) | skip
  refine WE ?_
  refine aw_cond_t rfl ?_
  refine WA ?_
  exact aret_of (us := [.a [.c (I 0), .c (I 0), .c (I 0), .c (.r (.slice none 0 0) [])], .c (I 1)]) [] (fun _ => .t [.a [.c (I 0), .c (I 0), .c (I 0), .c (.r (.slice none 0 0) [])], .c (I 1)]) (fun _ => []) (.cella (n := 4) rfl (by kernel_rfl) (Cells.box rfl) (by simp) (by (try simp only [nm, putL, Nat.reduceAdd, cellsOf, cvOf]) <;> rfl) (.tmp rfl .nil)) (by decide) (fun i hi => absurd hi (Nat.not_lt_zero i)) (fun g' => .tL (.cons (.aL (.cons (.c rfl) (.cons (.c rfl) (.cons (.c rfl) (.cons (.c rfl) .nil))))) (.cons (.c rfl) .nil))) (fun _ => .nil) (fun g' => ⟨.slice none 0 0, ⟨0, 0, 0, []⟩, rfl, fun _ => rfl, fun e => absurd e (by simp), rfl⟩)
 | false =>
 have htp : 0 ≤ tp ∧ tp ≤ 50 := by simp [outB] at o1; exact o1
 have hbo : 0 ≤ bo ∧ bo ≤ 50 := by simp [outB] at o2; exact o2
 refine WR ?_
 refine al_ef rfl (ef_call0 false (fun _ => isstack_v _) rfl .fn rfl (by decide) (by kernel_rfl) rfl (fun _ => C0 rfl) (by simp)) ?_
 rintro _ _ ⟨_, _, _, ⟨rfl, rfl⟩, hF, hH⟩
 rw [o1] at hF
 (refine NST hF hH ?_; clear hF hH; rintro rfl rfl)
 refine WO ?_
 first | refine ZS ?_ | (refine G1 rfl ?_; refine al_ef rfl (ef_call0 false (fun _ => isstack_v _) rfl .fn rfl (by decide) (by kernel_rfl) rfl (fun _ => C0 rfl) (by simp)) ?_; rintro _ _ ⟨_, _, _, ⟨rfl, rfl⟩, hF, hH⟩; rw [o2] at hF; (refine NST hF hH ?_; clear hF hH; rintro rfl rfl)) | skip
 refine WE ?_
 refine aw_cond_f rfl ?_
 refine ZZ ?_
 obtain ⟨i, rfl⟩ : ∃ i : Nat, ly = i := ⟨ly.toNat, by omega⟩
 obtain ⟨⟨vc, c⟩, hic⟩ : ∃ e, l[i]? = some e := ⟨_, List.getElem?_eq_getElem (by omega)⟩
 have hcm := List.mem_of_getElem? hic
 have hnc : NCel c := hnr _ hcm (hok _ hcm)
 have hmm : (l.map Prod.snd).map covL = l.map fun p => covL p.2 := by rw [List.map_map]; rfl
 have hsolid : ∀ (w : Value) (gs : List (Value × Value × Grd)), gs.map (fun p => p.2.2) = l.map (fun p => grdOf p.2) → ∃ g, (GOk g ∧ (0 ≤ g.st ∧ g.st ≤ 10000) ∧ normC g.st (covG g) = (celN c.st (solL (l.map Prod.snd) i tp bo), 0)) ∧ ACalls Tryz.prog 135 [.c (.r w (gR gs)), .c (I i), .c (I tp), .c (I bo)] [] fun u H => ∃ pv1 v1, u = gV pv1 v1 g ∧ H = [] := fun w gs hgs => by
  have hgl : gs.length = l.length := by have := congrArg List.length hgs; simpa using this
  obtain ⟨⟨pv, ov, g⟩, hz⟩ : ∃ e, gs[i]? = some e := ⟨_, List.getElem?_eq_getElem (by omega)⟩
  obtain ⟨va', c', h2, h3, h4, h5⟩ := grids_at hok hgs i _ hz
  rw [hic] at h2
  obtain ⟨rfl, rfl⟩ := Prod.mk.inj (Option.some.inj h2)
  obtain rfl : g = grdOf c := h4
  have hst := h3.st
  refine ⟨filG (grdOf c) _, ⟨filG_ok (grdOf_ok h3) _, by show 0 ≤ (grdOf c).st ∧ (grdOf c).st ≤ 10000; rw [grdOf_st]; omega, ?_⟩, solid_v w gs (l.map fun p => covL p.2) i tp bo (by omega) htp hbo (by omega) (by simp [hgl]) (fun k p hp => ?_) pv ov (grdOf c) hz⟩
  ·have hL : ∀ q, q ∈ solL (l.map Prod.snd) i tp bo ↔ q ∈ covL c ∧ (fun q => !nearL (l.map fun p => covL p.2) (i : Int) tp bo q) q = true := fun q => by rw [solL, hmm, h5, List.mem_filter]
   rw [show (filG (grdOf c) (fun q => !nearL (l.map fun p => covL p.2) (i : Int) tp bo q)).st = (grdOf c).st from rfl, normC_fil h3 hL]
   exact (normC_ok hnc fun p hp => ((hL p).1 hp).1).1
  ·obtain ⟨va', c', q2, q3, q4, q5⟩ := grids_at hok hgs k _ hp
   rw [q4]
   exact ⟨grdOf_ok q3, fun a b => by rw [at_cov q3, q5]⟩
 refine WR ?_
 refine al_ef rfl (ef_call0 false (fun _ => grids_v va l hok (by omega)) rfl .fn rfl (by decide) (by kernel_rfl) rfl (fun _ => C0 rfl) (by simp)) ?_
 rintro _ _ ⟨_, _, _, ⟨w, gs, rfl, hgs, rfl⟩, hF, hH⟩
 (refine NST hF hH ?_; clear hF hH; rintro rfl rfl)
 refine WO ?_
 obtain ⟨g, hgl, hsol⟩ := hsolid w gs hgs
 refine al_ef rfl (ef_call0 false (fun _ => hsol) rfl .fn rfl (by decide) (by kernel_rfl) rfl (fun _ => C0 rfl) (by simp)) ?_
 rintro _ _ ⟨_, _, _, ⟨pv1, v1, rfl, rfl⟩, hF, hH⟩
 (refine NST hF hH ?_; clear hF hH; rintro rfl rfl)
 refine al_ef rfl (ef_call0 false (fun _ => cells_v g pv1 v1 hgl.1 hgl.2.1) rfl .fn rfl (by decide) (by kernel_rfl) rfl (fun _ => C0 rfl) (by simp)) ?_
 rintro _ _ ⟨_, _, _, ⟨v2, rfl, rfl⟩, hF, hH⟩
 rw [hgl.2.2] at hF
 (refine NST hF hH ?_; clear hF hH; rintro rfl rfl)
 refine WE ?_
 generalize hS : celN c.st (solL (l.map Prod.snd) i tp bo) = S at *
 exact aret_of (us := [.a [.c (I S.st), .c (I S.x), .c (I S.y), .c (.r v2 (tR S.rows))], .c (I 0)]) [] (fun _ => .t [.a [.c (I S.st), .c (I S.x), .c (I S.y), .c (.r v2 (tR S.rows))], .c (I 0)]) (fun _ => []) (.cella (n := 4) rfl (by kernel_rfl) (Cells.box rfl) (by simp) (by (try simp only [nm, putL, Nat.reduceAdd, cellsOf, cvOf]) <;> rfl) (.tmp rfl .nil)) (by decide) (fun i hi => absurd hi (Nat.not_lt_zero i)) (fun g' => .tL (.cons (.aL (.cons (.c rfl) (.cons (.c rfl) (.cons (.c rfl) (.cons (.c rfl) .nil))))) (.cons (.c rfl) .nil))) (fun _ => .nil) (fun g' => ⟨v2, S, rfl, fun e => absurd rfl e, fun _ => ⟨fun p hp => hnr p hp (hok p hp), i, c, rfl, by rw [List.getElem?_map, hic]; rfl, hS.symm⟩, rfl⟩)
end Go.Proofs.YtniolldgidgffaaGreatDoor

/- Walks through strings; sets of spots in the logic. -/
namespace Go.Proofs.YtniolldgidgffaaGreatDoor
open Go Go.RowKit
section
variable {P : Program} {N : Nat} {E : Env} {F : Fm} {H : List OB} {o : Oper} {S : Nat → Prop} {ρ : List (Option Nat)} {a : Act} {w : World} {t : TypeId} {x y : Operand}
theorem ef_ranges {d : Nat} {l : List UInt8} (ho : o.op = .range t x) (hd : o.dst = some d) (hN : d < N) (ht : P.underlying t = some .string) (hx : ev F x = some (.c (T l))) :
    Ef P N E o F H fun F' H' => F' = (d, .p H.length 0 0) :: F ∧ H' = H ++ [.sit (bst l) 0] :=
 ef_of hd hN ⟨rfl, rfl⟩ fun S ρ a w hR => by
  have h1 := (hR.ev hx).1
  simp only [AV.den, CV.den] at h1
  refine ⟨S, ρ ++ [some w.heap.size], w.alloc (.stringIter (bst l) 0), ?_, ?_, wf_snoc_p hR.hp _⟩
  ·rw [den_snoc_p hR.hp]
   simp only [execOp, ho, h1, Instr.range, Sem.run_bind, st_under ht, Result.andThen_ok, Sem.run_pure, run_newObj, World.alloc_eq]
  ·exact hR.newO _ (.sit (bst l) 0) ⟨_, rfl, by rw [heap_new]⟩
theorem decode_bst {l : List UInt8} {k : Nat} {b : UInt8} (hb : l[k]? = some b) (h : b < 128) : Utf8.decode (bst l) k = (b.toNat, 1) := by
 have hk := (List.getElem?_eq_some_iff.1 hb).1
 have h0 : ((bst l).get! (k + 0)).toNat = b.toNat := by
  congr 1
  show (l.toArray)[k + 0]! = b
  simp [getElem!_def, hb]
 unfold Utf8.decode
 simp only [h0]
 have : b.toNat < 128 := h
 rw [if_pos this]
theorem ef_nexts {bi d k : Nat} {l : List UInt8} {b : UInt8} (ho : o.op = .next x true) (hd : o.dst = some d) (hN : d < N) (hx : ev F x = some (.p bi 0 0)) (hi : H[bi]? = some (.sit (bst l) k)) (hb : l[k]? = some b) (h8 : b < 128) :
    Ef P N E o F H fun F' H' => F' = (d, .t [.c (.s (.bool true)), .c (.s (.int .i64 k)), .c (.s (.int .i32 b.toNat))]) :: F ∧ H' = H.set bi (.sit (bst l) (k + 1)) := fun S ρ a w hR => by
 obtain ⟨h1, _⟩ := hR.ev hx
 obtain ⟨Bi, i1, i2⟩ := hR.hp.blk bi _ hi
 have hz : szAt H bi = 0 := by unfold szAt; rw [hi]; rfl
 simp only [AV.den, i1, hz, Option.map_some, Nat.mul_zero, Nat.add_zero, Nat.zero_add] at h1
 have hk := (List.getElem?_eq_some_iff.1 hb).1
 have hg : (getObj Bi).run P w = .ok (.stringIter (bst l) k) w := by unfold getObj; simp [Sem.run, i2]
 have hs : (setObj Bi (.stringIter (bst l) (k + 1))).run P w = .ok () (putBlk w Bi (.stringIter (bst l) (k + 1))) := by unfold setObj; simp [Sem.run, i2, putBlk]
 unfold effO
 have hex : (execOp a.eval o).run P w = .ok (.value (.tuple #[.bool true, .int .i64 k, .int .i32 b.toNat])) (putBlk w Bi (.stringIter (bst l) (k + 1))) := by
  simp only [execOp, ho, h1, Instr.next, Sem.run_bind, hg, Result.andThen_ok]
  rw [if_pos (by rw [bst_size]; exact hk), decode_bst hb h8]
  simp only [Sem.run_bind, hs, Result.andThen_ok, Sem.run_pure]
  rfl
 rw [hex]
 refine ⟨S, ρ, _, _, ⟨rfl, rfl⟩, ?_⟩
 rw [hd]
 have hset := R.set (ob := .sit (bst l) k) (ob' := .sit (bst l) (k + 1)) (cob := .stringIter (bst l) (k + 1)) hR hi i1 rfl rfl (fun h => absurd rfl h) (putBlk_size _ _) ⟨Bi, rfl, putBlk_at i2⟩
 have := hset.put (d := d) (x := .t [.c (.s (.bool true)), .c (.s (.int .i64 k)), .c (.s (.int .i32 b.toNat))]) hN (.t fun y hy => by
  simp only [List.mem_cons, List.not_mem_nil, or_false] at hy
  rcases hy with rfl | rfl | rfl <;> exact .c (.s _))
 simpa [AV.den, AV.denL, CV.den] using this
theorem ef_nexte {bi d k : Nat} {l : List UInt8} (ho : o.op = .next x true) (hd : o.dst = some d) (hN : d < N) (hx : ev F x = some (.p bi 0 0)) (hi : H[bi]? = some (.sit (bst l) k)) (hk : l.length ≤ k) :
    Ef P N E o F H fun F' H' => F' = (d, .t [.c (.s (.bool false))]) :: F ∧ H' = H := fun S ρ a w hR => by
 obtain ⟨h1, _⟩ := hR.ev hx
 obtain ⟨Bi, i1, i2⟩ := hR.hp.blk bi _ hi
 have hz : szAt H bi = 0 := by unfold szAt; rw [hi]; rfl
 simp only [AV.den, i1, hz, Option.map_some, Nat.mul_zero, Nat.add_zero, Nat.zero_add] at h1
 have hg : (getObj Bi).run P w = .ok (.stringIter (bst l) k) w := by unfold getObj; simp [Sem.run, i2]
 unfold effO
 have hex : (execOp a.eval o).run P w = .ok (.value (.tuple #[.bool false])) w := by
  simp only [execOp, ho, h1, Instr.next, Sem.run_bind, hg, Result.andThen_ok]
  rw [if_neg (by rw [bst_size]; omega)]
  rfl
 rw [hex]
 refine ⟨S, ρ, _, _, ⟨rfl, rfl⟩, ?_⟩
 rw [hd]
 exact hR.put (x := .t [.c (.s (.bool false))]) hN (.t fun y hy => by rw [List.mem_singleton.1 hy]; exact .c (.s _))
theorem ef_nextP {bi b ck d : Nat} {seen : List Nat} {l : SE} {L : List Spot} (hok : SetOk l ck L) (ho : o.op = .next x false) (hd : o.dst = some d) (hN : d < N) (hx : ev F x = some (.p bi 0 0)) (hi : H[bi]? = some (.itr b ck seen ck)) (hH : H[b]? = some (mpO encP encT l ck)) :
    Ef P N E o F H fun F' H' => (∃ eb ex ey, (eb, (ex, ey), true) ∈ l ∧ eb ∉ seen ∧ F' = (d, .t [.c (.s (.bool true)), .a [.c (.s (.int .i64 ex)), .c (.s (.int .i64 ey))], .c (.s (.bool true))]) :: F ∧ H' = H.set bi (.itr b ck (seen ++ [eb]) ck)) ∨ ((∀ e ∈ l, e.1 ∈ seen) ∧ F' = (d, .t [.c (.s (.bool false))]) :: F ∧ H' = H) := fun S ρ a w hR => by
 refine effO_mono (fun a' w' hh => ?_) (ef_next (ke := encP) (ve := encT) ho hd hN hx hi hH hok.hb (Nat.le_refl _) S ρ a w hR)
 obtain ⟨S', ρ', F', H', hk, hR'⟩ := hh
 refine ⟨S', ρ', F', H', ?_, hR'⟩
 rcases hk with ⟨⟨eb, ⟨ex, ey⟩, v⟩, h1, h2, h3, h4⟩ | h
 ·obtain rfl : v = true := hok.hv _ h1
  exact .inl ⟨eb, ex, ey, h1, h2, h3, h4⟩
 ·exact .inr h
theorem rd_entryP {bi b ck eb : Nat} {ex ey : Int} {seen : List Nat} {l : SE} {L : List Spot} (hok : SetOk l ck L) (ho : o.op = .entry x) (hx : ev F x = some (.p bi 0 0)) (hi : H[bi]? = some (.itr b ck (seen ++ [eb]) ck)) (hH : H[b]? = some (mpO encP encT l ck)) (he : (eb, (ex, ey), true) ∈ l) :
    Rd P N E o F H (.t [.a [.c (.s (.int .i64 ex)), .c (.s (.int .i64 ey))], .c (.s (.bool true))]) :=
 rd_entry (ke := encP) (ve := encT) (e := (eb, (ex, ey), true)) ho hx hi hH he hok.nb
theorem rd_lookP {t kt et : TypeId} {ix : Operand} {b ck : Nat} {l : SE} {L : List Spot} {p q : Int} (hok : SetOk l ck L) (hk : KeyOk P kt encP) (ho : o.op = .lookup t x ix false) (ht : P.underlying t = some (.map kt et)) (hz : (P.info? et).bind (·.zero) = some (.bool false))
    (hx : ev F x = some (.mp b)) (hH : H[b]? = some (mpO encP encT l ck)) (hi : ev F ix = some (.a [.c (.s (.int .i64 p)), .c (.s (.int .i64 q))])) : Rd P N E o F H (.c (.s (.bool (decide ((p, q) ∈ L))))) := by
 have := rd_lookup (N := N) (E := E) (ke := encP) (ve := encT) (k := (p, q)) (z := false) hk ho ht hz hx hH hi (fun ρ H => by simp [AV.den, AV.denL, CV.den, encP])
 rw [hok.get] at this
 exact this
end
end Go.Proofs.YtniolldgidgffaaGreatDoor
