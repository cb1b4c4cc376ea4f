/- The statement FillingsJoined, a tied card: for every input the law returns true, and the input reads as it did. Conditions: none. -/
import Derived.Test.YtniolldgidgffaaGreatDoorQaq
import Derived.Test.YtniolldgidgffaaGreatDoorQby
set_option linter.unusedSimpArgs false
set_option linter.unusedVariables false
/- The statement FillingsJoined, a tied card: for every input the law returns true, and the input reads as it did. Conditions: none. -/
namespace Go.Proofs.YtniolldgidgffaaGreatDoor
open Go Go.ChangeShapes Go.WideShapes Go.ChangeAt Go.RowKit
set_option maxRecDepth 100000
theorem fillingsJoined_contract (H : Type) (enc : TypeId × Value → H) (W : World) (base : Nat) (args : Array Value) (ds gs : List (DataW H)) (before : List MemPlace)
    (hval : ∀ (j : Nat) t v, Tryz.f5.params[j]? = some t → args[j]? = some v → Value.okWide Tryz.prog W .any base t v)
    (hW : DataW.Whole enc Tryz.prog Tryz.f5.params.toList Rows.fillingsJoinedSpec.vars false W args.toList ds gs before) :
    Calls Tryz.prog 5 args W fun e W' => ∃ v, e = .returned v ∧ Rows.fillingsJoinedSpec.post enc Tryz.prog Tryz.f5 false true false false W args v W' := by
 have hW' := hW
 obtain ⟨p, q, hA0, hV, rfl, hfz, hnd⟩ := hW
 have hA : DataW.TrodAll enc Tryz.prog W 0 (fun _ => true) true Tryz.f5.params.toList args.toList ds p := hA0
 rw [Tryz.params5] at hA hval
 obtain ⟨v0, d0, rfl, rfl, h0⟩ := trodAll_one hA
 obtain ⟨rfl, rfl⟩ := trodVars_none hV
 obtain ⟨A, len, cap, rfl⟩ := okWide_slice Tryz.underlying22 (hval 0 22 v0 rfl rfl)
 obtain ⟨fuel, hf⟩ := h0
 obtain ⟨zs, hs, hg⟩ := arg_ints hf
 refine (law_joined (.slice A len cap) zs hs (fun b => b < W.heap.size) [] W (rh_none W) (fun x hx => by rw [List.mem_singleton.1 hx]; exact .c hg)).mono ?_
 rintro e W' ⟨u, H', ρ', S', rfl, rfl, -, -, hst, -⟩
 refine ⟨_, rfl, [d0], [], p ++ [], [], p, [], hW', trodAll_mk1 (shut_bool Tryz.underlying4 true), ?_, by exact rfl, kept_all hst, fun h => by cases h⟩
 refine trodAll_mk1 ⟨fuel, DataW.trod_stays Tryz.kids (fun {t e} => Tryz.full t e) (fun h => by cases h) (of_decide_eq_true (by kernel_rfl)) hf (fun q hq => same_all hst ?_) (fun q hq => ?_)⟩
 ·exact hW'.lt q (by simpa using hq)
 ·exact decide_eq_true (hW'.lt q (by simpa using hq))
theorem fillingsJoined_t0 : Tryz.checked.prog.inits.idxOf? 5 = none := by kernel_rfl
theorem fillingsJoined_t1 (os : Os) : Input.okWideB Tryz.checked.prog ((World.laidAll Tryz.prog os laidL).forCall (fun _ _ => 0) ⟨#[], #[.slice none 0 0], []⟩) 5 ⟨#[], #[.slice none 0 0], []⟩ = true := by kernel_rfl
theorem fillingsJoined_t2 (H : Type) (enc : TypeId × Value → H) (os : Os) : Rows.fillingsJoinedSpec.preB enc Tryz.checked.prog Tryz.f5 Rows.fillingsJoinedRow.domain false ((World.laidAll Tryz.prog os laidL).forCall (fun _ _ => 0) ⟨#[], #[.slice none 0 0], []⟩).memory #[.slice none 0 0] 8 = true := by kernel_rfl
theorem fillingsJoined_t3 (H : Type) (enc : TypeId × Value → H) (os : Os) : Rows.fillingsJoinedSpec.sizedB enc Tryz.checked.prog Tryz.f5 false ((World.laidAll Tryz.prog os laidL).forCall (fun _ _ => 0) ⟨#[], #[.slice none 0 0], []⟩).memory #[.slice none 0 0] 8 = true := by kernel_rfl
set_option maxRecDepth 100000 in
theorem fillingsJoined_lifted (os : Os) (started : os.Started) (H : Type) (enc : TypeId × Value → H) :
    ReturnsInHanded {} Tryz.checked os 5 .any (fun w args => (Rows.fillingsJoinedSpec.pre enc Tryz.prog Tryz.f5 Rows.fillingsJoinedRow.domain false w args ∧ laidMetH Tryz.prog laidL w) ∧ sizedMet enc Tryz.prog Tryz.f5 (OpenSpec.ofChange Rows.fillingsJoinedSpec) false w args)
     (Rows.fillingsJoinedSpec.post enc Tryz.prog Tryz.f5 false true false false) := by
 refine returnsInHanded_of_change_and (C := Tryz.checked) (X := fun w _ => laidMetH Tryz.prog laidL w) (fun _ _ _ hh h => h.of_heap hh) Tryz.own started fillingsJoined_t0 Tryz.func5
  (ChangeSpec.witness_shaped (enc := enc) (C := Tryz.checked) (os := os) (X := fun w _ => laidMetH Tryz.prog laidL w) false (World.laidAll Tryz.prog os laidL) #[.slice none 0 0] 8 (World.laidAll_os _ _ _)
   (laid_shaped os) (fillingsJoined_t1 os) (fillingsJoined_t2 H enc os) (fillingsJoined_t3 H enc os) (laid_met os)) ?_
 intro W base args ds gs before hval hW _ _ _ _
 exact fillingsJoined_contract H enc W base args ds gs before hval hW
theorem fillingsJoined_k1 : (Rows.fillingsJoinedRow.inPlace == Tryz.pinned.checked.prog.inPlace 5) = true := by kernel_rfl
theorem fillingsJoined_k2 : (Rows.fillingsJoinedRow.unfollowed == Tryz.pinned.checked.prog.unfollowed 5) = true := by kernel_rfl
theorem fillingsJoined_k3 : (Rows.fillingsJoinedRow.recurses == Tryz.pinned.checked.prog.recurses 5) = true := by kernel_rfl
theorem fillingsJoined_k4 : (Rows.fillingsJoinedRow.named == Tryz.pinned.checked.prog.varsNamed 5) = true := by kernel_rfl
theorem fillingsJoined_k5 : (Rows.fillingsJoinedRow.lifted == Tryz.pinned.checked.prog.liftsFinal) = true := by kernel_rfl
theorem fillingsJoined_k6 : (Tryz.pinned.checked.prog.make == some Rows.fillingsJoinedRow.make) = true := by kernel_rfl
theorem fillingsJoined_facts : joinedFacts Tryz.pinned.checked.prog 5 Tryz.f5 Rows.fillingsJoinedSpec Rows.fillingsJoinedRow = true := by
 unfold joinedFacts
 rw [kc_laidOut, kc_mapsRowed, kc_heard, kc_enter, fillingsJoined_k1, fillingsJoined_k2, fillingsJoined_k3, fillingsJoined_k4, fillingsJoined_k5, fillingsJoined_k6]
 kernel_rfl
theorem fillingsJoined_named : Tryz.pinned.checked.prog.funcNamed Rows.fillingsJoinedRow.func = some 5 := by kernel_rfl
theorem fillingsJoined_inst : Tryz.f5.isInstance Tryz.pinned.checked.prog Rows.fillingsJoinedRow.origin Rows.fillingsJoinedRow.targs := of_decide_eq_true (by kernel_rfl)
theorem fillingsJoined_wrap : Tryz.f5.isWrapper Tryz.pinned.checked.prog Rows.fillingsJoinedRow.wrapper Rows.fillingsJoinedRow.mainSum := by unfold Func.isWrapper; first | (rw [if_pos (by decide +kernel)]; kernel_rfl) | (rw [if_neg (by decide +kernel)]; exact ⟨rfl, rfl⟩)
theorem fillingsJoined_main : Tryz.pinned.checked.prog.mainIs = some (Rows.fillingsJoinedCard.stood.harness.1, Rows.fillingsJoinedCard.stood.harness.2.toList) := by kernel_rfl
theorem fillingsJoined_goes : false = Rows.fillingsJoinedRow.goesBy Tryz.pinned.checked.prog := by kernel_rfl
theorem fillingsJoined_wf : Rows.fillingsJoinedRow.wfByText (OpenSpec.ofChange Rows.fillingsJoinedSpec) = true := by kernel_rfl
theorem fillingsJoined_row : Rows.FillingsJoinedSaid :=
 OpenClaim.holds_of_wide 5 Tryz.f5 rfl rfl rfl rfl rfl rfl rfl ⟨rfl, rfl, rfl, rfl, rfl⟩ rfl rfl rfl rfl rfl fillingsJoined_named Tryz.func5 fillingsJoined_facts fillingsJoined_inst fillingsJoined_wrap
  (fun os started H enc _ => fillingsJoined_lifted os started H enc)
theorem fillingsJoined_holds : Rows.FillingsJoinedCardSaid :=
 Claim7.holds_tied_plain_at .later [] [.data, .pinned] true Rows.fillingsJoinedCard.stood.harness false fillingsJoined_row (fun _ h => by cases h) fillingsJoined_wf (fun _ h => by cases h) fillingsJoined_row_tie rfl ⟨rfl, rfl⟩ fillingsJoined_main rfl
  (fun f fn hf hfn => by
   obtain rfl : f = 5 := Option.some.inj (fillingsJoined_named.symm.trans hf) |>.symm
   obtain rfl : fn = Tryz.f5 := (Option.some.inj (Tryz.func5.symm.trans hfn)).symm
   exact ⟨kc_looks, fun j t ht => by
    rw [Tryz.params5] at ht
    have hm : t ∈ [22] := by simpa using Array.mem_of_getElem? ht
    have hall : ([22].all fun u => !Tryz.prog.wantsStandIn u) = true := by kernel_rfl
    exact (show Tryz.prog.wantsStandIn t = false by simpa using List.all_eq_true.1 hall t hm)⟩)
  fillingsJoined_goes
end Go.Proofs.YtniolldgidgffaaGreatDoor
