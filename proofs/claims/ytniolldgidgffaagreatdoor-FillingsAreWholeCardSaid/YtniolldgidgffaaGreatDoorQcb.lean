/- The statement FillingsAreWhole, a tied card: for every input the law returns true, and the input reads as it did. Conditions: none. -/
import Derived.Test.YtniolldgidgffaaGreatDoorQas
import Derived.Test.YtniolldgidgffaaGreatDoorQca
set_option linter.unusedSimpArgs false
set_option linter.unusedVariables false
/- The statement FillingsAreWhole, a tied card: for every input the law returns true, and the input reads as it did. Conditions: none. -/
namespace Go.Proofs.YtniolldgidgffaaGreatDoor
open Go Go.ChangeShapes Go.WideShapes Go.ChangeAt Go.RowKit
set_option maxRecDepth 100000
theorem fillingsAreWhole_contract (H : Type) (enc : TypeId × Value → H) (W : World) (base : Nat) (args : Array Value) (ds gs : List (DataW H)) (before : List MemPlace)
    (hval : ∀ (j : Nat) t v, Tryz.f8.params[j]? = some t → args[j]? = some v → Value.okWide Tryz.prog W .any base t v)
    (hW : DataW.Whole enc Tryz.prog Tryz.f8.params.toList Rows.fillingsAreWholeSpec.vars false W args.toList ds gs before) :
    Calls Tryz.prog 8 args W fun e W' => ∃ v, e = .returned v ∧ Rows.fillingsAreWholeSpec.post enc Tryz.prog Tryz.f8 false true false false W args v W' := by
 have hW' := hW
 obtain ⟨p, q, hA0, hV, rfl, hfz, hnd⟩ := hW
 have hA : DataW.TrodAll enc Tryz.prog W 0 (fun _ => true) true Tryz.f8.params.toList args.toList ds p := hA0
 rw [Tryz.params8] at hA hval
 obtain ⟨v0, d0, rfl, rfl, h0⟩ := trodAll_one hA
 obtain ⟨rfl, rfl⟩ := trodVars_none hV
 obtain ⟨A, len, cap, rfl⟩ := okWide_slice Tryz.underlying22 (hval 0 22 v0 rfl rfl)
 obtain ⟨fuel, hf⟩ := h0
 obtain ⟨zs, hs, hg⟩ := arg_ints hf
 refine (law_fillwhole (.slice A len cap) zs hs (fun b => b < W.heap.size) [] W (rh_none W) (fun x hx => by rw [List.mem_singleton.1 hx]; exact .c hg)).mono ?_
 rintro e W' ⟨u, H', ρ', S', rfl, rfl, -, -, hst, -⟩
 refine ⟨_, rfl, [d0], [], p ++ [], [], p, [], hW', trodAll_mk1 (shut_bool Tryz.underlying4 true), ?_, by exact rfl, kept_all hst, fun h => by cases h⟩
 refine trodAll_mk1 ⟨fuel, DataW.trod_stays Tryz.kids (fun {t e} => Tryz.full t e) (fun h => by cases h) (of_decide_eq_true (by kernel_rfl)) hf (fun q hq => same_all hst ?_) (fun q hq => ?_)⟩
 ·exact hW'.lt q (by simpa using hq)
 ·exact decide_eq_true (hW'.lt q (by simpa using hq))
theorem fillingsAreWhole_t0 : Tryz.checked.prog.inits.idxOf? 8 = none := by kernel_rfl
theorem fillingsAreWhole_t1 (os : Os) : Input.okWideB Tryz.checked.prog ((World.laidAll Tryz.prog os laidL).forCall (fun _ _ => 0) ⟨#[], #[.slice none 0 0], []⟩) 8 ⟨#[], #[.slice none 0 0], []⟩ = true := by kernel_rfl
theorem fillingsAreWhole_t2 (H : Type) (enc : TypeId × Value → H) (os : Os) : Rows.fillingsAreWholeSpec.preB enc Tryz.checked.prog Tryz.f8 Rows.fillingsAreWholeRow.domain false ((World.laidAll Tryz.prog os laidL).forCall (fun _ _ => 0) ⟨#[], #[.slice none 0 0], []⟩).memory #[.slice none 0 0] 8 = true := by kernel_rfl
theorem fillingsAreWhole_t3 (H : Type) (enc : TypeId × Value → H) (os : Os) : Rows.fillingsAreWholeSpec.sizedB enc Tryz.checked.prog Tryz.f8 false ((World.laidAll Tryz.prog os laidL).forCall (fun _ _ => 0) ⟨#[], #[.slice none 0 0], []⟩).memory #[.slice none 0 0] 8 = true := by kernel_rfl
set_option maxRecDepth 100000 in
theorem fillingsAreWhole_lifted (os : Os) (started : os.Started) (H : Type) (enc : TypeId × Value → H) :
    ReturnsInHanded {} Tryz.checked os 8 .any (fun w args => (Rows.fillingsAreWholeSpec.pre enc Tryz.prog Tryz.f8 Rows.fillingsAreWholeRow.domain false w args ∧ laidMetH Tryz.prog laidL w) ∧ sizedMet enc Tryz.prog Tryz.f8 (OpenSpec.ofChange Rows.fillingsAreWholeSpec) false w args)
     (Rows.fillingsAreWholeSpec.post enc Tryz.prog Tryz.f8 false true false false) := by
 refine returnsInHanded_of_change_and (C := Tryz.checked) (X := fun w _ => laidMetH Tryz.prog laidL w) (fun _ _ _ hh h => h.of_heap hh) Tryz.own started fillingsAreWhole_t0 Tryz.func8
  (ChangeSpec.witness_shaped (enc := enc) (C := Tryz.checked) (os := os) (X := fun w _ => laidMetH Tryz.prog laidL w) false (World.laidAll Tryz.prog os laidL) #[.slice none 0 0] 8 (World.laidAll_os _ _ _)
   (laid_shaped os) (fillingsAreWhole_t1 os) (fillingsAreWhole_t2 H enc os) (fillingsAreWhole_t3 H enc os) (laid_met os)) ?_
 intro W base args ds gs before hval hW _ _ _ _
 exact fillingsAreWhole_contract H enc W base args ds gs before hval hW
theorem fillingsAreWhole_k1 : (Rows.fillingsAreWholeRow.inPlace == Tryz.pinned.checked.prog.inPlace 8) = true := by kernel_rfl
theorem fillingsAreWhole_k2 : (Rows.fillingsAreWholeRow.unfollowed == Tryz.pinned.checked.prog.unfollowed 8) = true := by kernel_rfl
theorem fillingsAreWhole_k3 : (Rows.fillingsAreWholeRow.recurses == Tryz.pinned.checked.prog.recurses 8) = true := by kernel_rfl
theorem fillingsAreWhole_k4 : (Rows.fillingsAreWholeRow.named == Tryz.pinned.checked.prog.varsNamed 8) = true := by kernel_rfl
theorem fillingsAreWhole_k5 : (Rows.fillingsAreWholeRow.lifted == Tryz.pinned.checked.prog.liftsFinal) = true := by kernel_rfl
theorem fillingsAreWhole_k6 : (Tryz.pinned.checked.prog.make == some Rows.fillingsAreWholeRow.make) = true := by kernel_rfl
theorem fillingsAreWhole_facts : joinedFacts Tryz.pinned.checked.prog 8 Tryz.f8 Rows.fillingsAreWholeSpec Rows.fillingsAreWholeRow = true := by
 unfold joinedFacts
 rw [kc_laidOut, kc_mapsRowed, kc_heard, kc_enter, fillingsAreWhole_k1, fillingsAreWhole_k2, fillingsAreWhole_k3, fillingsAreWhole_k4, fillingsAreWhole_k5, fillingsAreWhole_k6]
 kernel_rfl
theorem fillingsAreWhole_named : Tryz.pinned.checked.prog.funcNamed Rows.fillingsAreWholeRow.func = some 8 := by kernel_rfl
theorem fillingsAreWhole_inst : Tryz.f8.isInstance Tryz.pinned.checked.prog Rows.fillingsAreWholeRow.origin Rows.fillingsAreWholeRow.targs := of_decide_eq_true (by kernel_rfl)
theorem fillingsAreWhole_wrap : Tryz.f8.isWrapper Tryz.pinned.checked.prog Rows.fillingsAreWholeRow.wrapper Rows.fillingsAreWholeRow.mainSum := by unfold Func.isWrapper; first | (rw [if_pos (by decide +kernel)]; kernel_rfl) | (rw [if_neg (by decide +kernel)]; exact ⟨rfl, rfl⟩)
theorem fillingsAreWhole_main : Tryz.pinned.checked.prog.mainIs = some (Rows.fillingsAreWholeCard.stood.harness.1, Rows.fillingsAreWholeCard.stood.harness.2.toList) := by kernel_rfl
theorem fillingsAreWhole_goes : false = Rows.fillingsAreWholeRow.goesBy Tryz.pinned.checked.prog := by kernel_rfl
theorem fillingsAreWhole_wf : Rows.fillingsAreWholeRow.wfByText (OpenSpec.ofChange Rows.fillingsAreWholeSpec) = true := by kernel_rfl
theorem fillingsAreWhole_row : Rows.FillingsAreWholeSaid :=
 OpenClaim.holds_of_wide 8 Tryz.f8 rfl rfl rfl rfl rfl rfl rfl ⟨rfl, rfl, rfl, rfl, rfl⟩ rfl rfl rfl rfl rfl fillingsAreWhole_named Tryz.func8 fillingsAreWhole_facts fillingsAreWhole_inst fillingsAreWhole_wrap
  (fun os started H enc _ => fillingsAreWhole_lifted os started H enc)
theorem fillingsAreWhole_holds : Rows.FillingsAreWholeCardSaid :=
 Claim7.holds_tied_plain_at .later [] [.data, .pinned] true Rows.fillingsAreWholeCard.stood.harness false fillingsAreWhole_row (fun _ h => by cases h) fillingsAreWhole_wf (fun _ h => by cases h) fillingsAreWhole_row_tie rfl ⟨rfl, rfl⟩ fillingsAreWhole_main rfl
  (fun f fn hf hfn => by
   obtain rfl : f = 8 := Option.some.inj (fillingsAreWhole_named.symm.trans hf) |>.symm
   obtain rfl : fn = Tryz.f8 := (Option.some.inj (Tryz.func8.symm.trans hfn)).symm
   exact ⟨kc_looks, fun j t ht => by
    rw [Tryz.params8] at ht
    have hm : t ∈ [22] := by simpa using Array.mem_of_getElem? ht
    have hall : ([22].all fun u => !Tryz.prog.wantsStandIn u) = true := by kernel_rfl
    exact (show Tryz.prog.wantsStandIn t = false by simpa using List.all_eq_true.1 hall t hm)⟩)
  fillingsAreWhole_goes
end Go.Proofs.YtniolldgidgffaaGreatDoor
