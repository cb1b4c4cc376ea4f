/- The statement MovedSlicesMove, a tied card: for every input the law returns true, and the input reads as it did. Conditions: none. -/
import Derived.Test.YthanangkmjjbaaaGreatDoorQap
import Derived.Test.YthanangkmjjbaaaGreatDoorQbx
set_option linter.unusedSimpArgs false
set_option linter.unusedVariables false
/- The statement MovedSlicesMove, a tied card: for every input the law returns true, and the input reads as it did. Conditions: none. -/
namespace Go.Proofs.YthanangkmjjbaaaGreatDoor
open Go Go.ChangeShapes Go.WideShapes Go.ChangeAt Go.RowKit
set_option maxRecDepth 100000
theorem movedSlicesMove_contract (H : Type) (enc : TypeId × Value → H) (W : World) (base : Nat) (args : Array Value) (ds gs : List (DataW H)) (before : List MemPlace)
    (hval : ∀ (j : Nat) t v, Tryz.f3.params[j]? = some t → args[j]? = some v → Value.okWide Tryz.prog W .any base t v)
    (hW : DataW.Whole enc Tryz.prog Tryz.f3.params.toList Rows.movedSlicesMoveSpec.vars false W args.toList ds gs before) :
    Calls Tryz.prog 3 args W fun e W' => ∃ v, e = .returned v ∧ Rows.movedSlicesMoveSpec.post enc Tryz.prog Tryz.f3 false true false false W args v W' := by
  have hW' := hW
  obtain ⟨p, q, hA0, hV, rfl, hfz, hnd⟩ := hW
  have hA : DataW.TrodAll enc Tryz.prog W 0 (fun _ => true) true Tryz.f3.params.toList args.toList ds p := hA0
  rw [Tryz.params3] at hA hval
  obtain ⟨v0, d0, rfl, rfl, h0⟩ := trodAll_one hA
  obtain ⟨rfl, rfl⟩ := trodVars_none hV
  obtain ⟨A, len, cap, rfl⟩ := okWide_slice Tryz.underlying22 (hval 0 22 v0 rfl rfl)
  obtain ⟨fuel, hf⟩ := h0
  obtain ⟨zs, hs, hg⟩ := arg_ints hf
  refine (law_moved (.slice A len cap) zs hs (fun b => b < W.heap.size) [] W (rh_none W) (fun x hx => by rw [List.mem_singleton.1 hx]; exact .c hg)).mono ?_
  rintro e W' ⟨u, H', ρ', S', rfl, rfl, -, -, hst, -⟩
  refine ⟨_, rfl, [d0], [], p ++ [], [], p, [], hW', trodAll_mk1 (shut_bool Tryz.underlying4 true), ?_, by exact rfl, kept_all hst, fun h => by cases h⟩
  refine trodAll_mk1 ⟨fuel, DataW.trod_stays Tryz.kids (fun {t e} => Tryz.full t e) (fun h => by cases h) (of_decide_eq_true (by kernel_rfl)) hf (fun q hq => same_all hst ?_) (fun q hq => ?_)⟩
  · exact hW'.lt q (by simpa using hq)
  · exact decide_eq_true (hW'.lt q (by simpa using hq))
theorem movedSlicesMove_t0 : Tryz.checked.prog.inits.idxOf? 3 = none := by kernel_rfl
theorem movedSlicesMove_t1 (os : Os) : Input.okWideB Tryz.checked.prog ((World.laidAll Tryz.prog os laidL).forCall (fun _ _ => 0) ⟨#[], #[.slice none 0 0], []⟩) 3 ⟨#[], #[.slice none 0 0], []⟩ = true := by kernel_rfl
theorem movedSlicesMove_t2 (H : Type) (enc : TypeId × Value → H) (os : Os) : Rows.movedSlicesMoveSpec.preB enc Tryz.checked.prog Tryz.f3 Rows.movedSlicesMoveRow.domain false ((World.laidAll Tryz.prog os laidL).forCall (fun _ _ => 0) ⟨#[], #[.slice none 0 0], []⟩).memory #[.slice none 0 0] 8 = true := by kernel_rfl
theorem movedSlicesMove_t3 (H : Type) (enc : TypeId × Value → H) (os : Os) : Rows.movedSlicesMoveSpec.sizedB enc Tryz.checked.prog Tryz.f3 false ((World.laidAll Tryz.prog os laidL).forCall (fun _ _ => 0) ⟨#[], #[.slice none 0 0], []⟩).memory #[.slice none 0 0] 8 = true := by kernel_rfl
set_option maxRecDepth 100000 in
theorem movedSlicesMove_lifted (os : Os) (started : os.Started) (H : Type) (enc : TypeId × Value → H) :
    ReturnsInHanded {} Tryz.checked os 3 .any (fun w args => (Rows.movedSlicesMoveSpec.pre enc Tryz.prog Tryz.f3 Rows.movedSlicesMoveRow.domain false w args ∧ laidMetH Tryz.prog laidL w) ∧ sizedMet enc Tryz.prog Tryz.f3 (OpenSpec.ofChange Rows.movedSlicesMoveSpec) false w args)
      (Rows.movedSlicesMoveSpec.post enc Tryz.prog Tryz.f3 false true false false) := by
  refine returnsInHanded_of_change_and (C := Tryz.checked) (X := fun w _ => laidMetH Tryz.prog laidL w) (fun _ _ _ hh h => h.of_heap hh) Tryz.own started movedSlicesMove_t0 Tryz.func3
    (ChangeSpec.witness_shaped (enc := enc) (C := Tryz.checked) (os := os) (X := fun w _ => laidMetH Tryz.prog laidL w) false (World.laidAll Tryz.prog os laidL) #[.slice none 0 0] 8 (World.laidAll_os _ _ _)
      (laid_shaped os) (movedSlicesMove_t1 os) (movedSlicesMove_t2 H enc os) (movedSlicesMove_t3 H enc os) (laid_met os)) ?_
  intro W base args ds gs before hval hW _ _ _ _
  exact movedSlicesMove_contract H enc W base args ds gs before hval hW
theorem movedSlicesMove_k1 : (Rows.movedSlicesMoveRow.inPlace == Tryz.pinned.checked.prog.inPlace 3) = true := by kernel_rfl
theorem movedSlicesMove_k2 : (Rows.movedSlicesMoveRow.unfollowed == Tryz.pinned.checked.prog.unfollowed 3) = true := by kernel_rfl
theorem movedSlicesMove_k3 : (Rows.movedSlicesMoveRow.recurses == Tryz.pinned.checked.prog.recurses 3) = true := by kernel_rfl
theorem movedSlicesMove_k4 : (Rows.movedSlicesMoveRow.named == Tryz.pinned.checked.prog.varsNamed 3) = true := by kernel_rfl
theorem movedSlicesMove_k5 : (Rows.movedSlicesMoveRow.lifted == Tryz.pinned.checked.prog.liftsFinal) = true := by kernel_rfl
theorem movedSlicesMove_k6 : (Tryz.pinned.checked.prog.make == some Rows.movedSlicesMoveRow.make) = true := by kernel_rfl
theorem movedSlicesMove_facts : joinedFacts Tryz.pinned.checked.prog 3 Tryz.f3 Rows.movedSlicesMoveSpec Rows.movedSlicesMoveRow = true := by
  unfold joinedFacts
  rw [kc_laidOut, kc_mapsRowed, kc_heard, kc_enter, movedSlicesMove_k1, movedSlicesMove_k2, movedSlicesMove_k3, movedSlicesMove_k4, movedSlicesMove_k5, movedSlicesMove_k6]
  kernel_rfl
theorem movedSlicesMove_named : Tryz.pinned.checked.prog.funcNamed Rows.movedSlicesMoveRow.func = some 3 := by kernel_rfl
theorem movedSlicesMove_inst : Tryz.f3.isInstance Tryz.pinned.checked.prog Rows.movedSlicesMoveRow.origin Rows.movedSlicesMoveRow.targs := of_decide_eq_true (by kernel_rfl)
theorem movedSlicesMove_wrap : Tryz.f3.isWrapper Tryz.pinned.checked.prog Rows.movedSlicesMoveRow.wrapper Rows.movedSlicesMoveRow.mainSum := by unfold Func.isWrapper; first | (rw [if_pos (by decide +kernel)]; kernel_rfl) | (rw [if_neg (by decide +kernel)]; exact ⟨rfl, rfl⟩)
theorem movedSlicesMove_main : Tryz.pinned.checked.prog.mainIs = some (Rows.movedSlicesMoveCard.stood.harness.1, Rows.movedSlicesMoveCard.stood.harness.2.toList) := by kernel_rfl
theorem movedSlicesMove_goes : false = Rows.movedSlicesMoveRow.goesBy Tryz.pinned.checked.prog := by kernel_rfl
theorem movedSlicesMove_wf : Rows.movedSlicesMoveRow.wfByText (OpenSpec.ofChange Rows.movedSlicesMoveSpec) = true := by kernel_rfl
theorem movedSlicesMove_row : Rows.MovedSlicesMoveSaid :=
  OpenClaim.holds_of_wide 3 Tryz.f3 rfl rfl rfl rfl rfl rfl rfl ⟨rfl, rfl, rfl, rfl, rfl⟩ rfl rfl rfl rfl rfl movedSlicesMove_named Tryz.func3 movedSlicesMove_facts movedSlicesMove_inst movedSlicesMove_wrap
    (fun os started H enc _ => movedSlicesMove_lifted os started H enc)
theorem movedSlicesMove_holds : Rows.MovedSlicesMoveCardSaid :=
  Claim7.holds_tied_plain_at .later [] [.data, .pinned] true Rows.movedSlicesMoveCard.stood.harness false movedSlicesMove_row (fun _ h => by cases h) movedSlicesMove_wf (fun _ h => by cases h) movedSlicesMove_row_tie rfl ⟨rfl, rfl⟩ movedSlicesMove_main rfl
    (fun f fn hf hfn => by
      obtain rfl : f = 3 := Option.some.inj (movedSlicesMove_named.symm.trans hf) |>.symm
      obtain rfl : fn = Tryz.f3 := (Option.some.inj (Tryz.func3.symm.trans hfn)).symm
      exact ⟨kc_looks, fun j t ht => by
        rw [Tryz.params3] at ht
        have hm : t ∈ [22] := by simpa using Array.mem_of_getElem? ht
        have hall : ([22].all fun u => !Tryz.prog.wantsStandIn u) = true := by kernel_rfl
        exact (show Tryz.prog.wantsStandIn t = false by simpa using List.all_eq_true.1 hall t hm)⟩)
    movedSlicesMove_goes
end Go.Proofs.YthanangkmjjbaaaGreatDoor
