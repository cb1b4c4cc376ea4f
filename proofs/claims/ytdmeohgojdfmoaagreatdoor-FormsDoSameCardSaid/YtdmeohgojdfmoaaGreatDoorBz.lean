/- The statement FormsDoSame, a tied card: for every input the law returns true, and the input reads as it did. Conditions: none. -/
import Derived.Test.YtdmeohgojdfmoaaGreatDoorKc
import Derived.Test.YtdmeohgojdfmoaaGreatDoorBy
set_option linter.unusedSimpArgs false
set_option linter.unusedVariables false
/- The statement FormsDoSame, a tied card: for every input the law returns true, and the input reads as it did. Conditions: none. -/
namespace Go.Proofs.YtdmeohgojdfmoaaGreatDoor
open Go Go.ChangeShapes Go.WideShapes Go.ChangeAt Go.RowKit
set_option maxRecDepth 100000
theorem formsDoSame_contract (H : Type) (enc : TypeId × Value → H) (W : World) (base : Nat) (args : Array Value) (ds gs : List (DataW H)) (before : List MemPlace)
    (hval : ∀ (j : Nat) t v, Tryz.f8.params[j]? = some t → args[j]? = some v → Value.okWide Tryz.prog W .any base t v)
    (hW : DataW.Whole enc Tryz.prog Tryz.f8.params.toList Rows.formsDoSameSpec.vars false W args.toList ds gs before) :
    Calls Tryz.prog 8 args W fun e W' => ∃ v, e = .returned v ∧ Rows.formsDoSameSpec.post enc Tryz.prog Tryz.f8 false true false false W args v W' := by
  have hW' := hW
  obtain ⟨p, q, hA0, hV, rfl, hfz, hnd⟩ := hW
  have hA : DataW.TrodAll enc Tryz.prog W 0 (fun _ => true) true Tryz.f8.params.toList args.toList ds p := hA0
  rw [Tryz.params8] at hA hval
  obtain ⟨v0, d0, rfl, rfl, h0⟩ := trodAll_one hA
  obtain ⟨rfl, rfl⟩ := trodVars_none hV
  obtain ⟨A, len, cap, rfl⟩ := okWide_slice Tryz.underlying22 (hval 0 22 v0 rfl rfl)
  obtain ⟨fuel, hf⟩ := h0
  obtain ⟨zs, hs, hg⟩ := arg_ints hf
  refine (law_forms (.slice A len cap) zs hs (fun b => b < W.heap.size) [] W (rh_none W) (fun x hx => by rw [List.mem_singleton.1 hx]; exact .c hg)).mono ?_
  rintro e W' ⟨u, H', ρ', S', rfl, rfl, -, -, hst, -⟩
  refine ⟨_, rfl, [d0], [], p ++ [], [], p, [], hW', trodAll_mk1 (shut_bool Tryz.underlying4 true), ?_, by exact rfl, kept_all hst, fun h => by cases h⟩
  refine trodAll_mk1 ⟨fuel, DataW.trod_stays Tryz.kids (fun {t e} => Tryz.full t e) (fun h => by cases h) (of_decide_eq_true (by kernel_rfl)) hf (fun q hq => same_all hst ?_) (fun q hq => ?_)⟩
  · exact hW'.lt q (by simpa using hq)
  · exact decide_eq_true (hW'.lt q (by simpa using hq))
theorem formsDoSame_t0 : Tryz.checked.prog.inits.idxOf? 8 = none := by kernel_rfl
theorem formsDoSame_t1 (os : Os) : Input.okWideB Tryz.checked.prog ((World.laidAll Tryz.prog os laidL).forCall (fun _ _ => 0) ⟨#[], #[.slice none 0 0], []⟩) 8 ⟨#[], #[.slice none 0 0], []⟩ = true := by kernel_rfl
theorem formsDoSame_t2 (H : Type) (enc : TypeId × Value → H) (os : Os) : Rows.formsDoSameSpec.preB enc Tryz.checked.prog Tryz.f8 Rows.formsDoSameRow.domain false ((World.laidAll Tryz.prog os laidL).forCall (fun _ _ => 0) ⟨#[], #[.slice none 0 0], []⟩).memory #[.slice none 0 0] 8 = true := by kernel_rfl
theorem formsDoSame_t3 (H : Type) (enc : TypeId × Value → H) (os : Os) : Rows.formsDoSameSpec.sizedB enc Tryz.checked.prog Tryz.f8 false ((World.laidAll Tryz.prog os laidL).forCall (fun _ _ => 0) ⟨#[], #[.slice none 0 0], []⟩).memory #[.slice none 0 0] 8 = true := by kernel_rfl
set_option maxRecDepth 100000 in
theorem formsDoSame_lifted (os : Os) (started : os.Started) (H : Type) (enc : TypeId × Value → H) :
    ReturnsInHanded {} Tryz.checked os 8 .any (fun w args => (Rows.formsDoSameSpec.pre enc Tryz.prog Tryz.f8 Rows.formsDoSameRow.domain false w args ∧ laidMetH Tryz.prog laidL w) ∧ sizedMet enc Tryz.prog Tryz.f8 (OpenSpec.ofChange Rows.formsDoSameSpec) false w args)
      (Rows.formsDoSameSpec.post enc Tryz.prog Tryz.f8 false true false false) := by
  refine returnsInHanded_of_change_and (C := Tryz.checked) (X := fun w _ => laidMetH Tryz.prog laidL w) (fun _ _ _ hh h => h.of_heap hh) Tryz.own started formsDoSame_t0 Tryz.func8
    (ChangeSpec.witness_shaped (enc := enc) (C := Tryz.checked) (os := os) (X := fun w _ => laidMetH Tryz.prog laidL w) false (World.laidAll Tryz.prog os laidL) #[.slice none 0 0] 8 (World.laidAll_os _ _ _)
      (laid_shaped os) (formsDoSame_t1 os) (formsDoSame_t2 H enc os) (formsDoSame_t3 H enc os) (laid_met os)) ?_
  intro W base args ds gs before hval hW _ _ _ _
  exact formsDoSame_contract H enc W base args ds gs before hval hW
theorem formsDoSame_k1 : (Rows.formsDoSameRow.inPlace == Tryz.pinned.checked.prog.inPlace 8) = true := by kernel_rfl
theorem formsDoSame_k2 : (Rows.formsDoSameRow.unfollowed == Tryz.pinned.checked.prog.unfollowed 8) = true := by kernel_rfl
theorem formsDoSame_k3 : (Rows.formsDoSameRow.recurses == Tryz.pinned.checked.prog.recurses 8) = true := by kernel_rfl
theorem formsDoSame_k4 : (Rows.formsDoSameRow.named == Tryz.pinned.checked.prog.varsNamed 8) = true := by kernel_rfl
theorem formsDoSame_k5 : (Rows.formsDoSameRow.lifted == Tryz.pinned.checked.prog.liftsFinal) = true := by kernel_rfl
theorem formsDoSame_k6 : (Tryz.pinned.checked.prog.make == some Rows.formsDoSameRow.make) = true := by kernel_rfl
theorem formsDoSame_facts : joinedFacts Tryz.pinned.checked.prog 8 Tryz.f8 Rows.formsDoSameSpec Rows.formsDoSameRow = true := by
  unfold joinedFacts
  rw [kc_laidOut, kc_mapsRowed, kc_heard, kc_enter, formsDoSame_k1, formsDoSame_k2, formsDoSame_k3, formsDoSame_k4, formsDoSame_k5, formsDoSame_k6]
  kernel_rfl
theorem formsDoSame_named : Tryz.pinned.checked.prog.funcNamed Rows.formsDoSameRow.func = some 8 := by kernel_rfl
theorem formsDoSame_inst : Tryz.f8.isInstance Tryz.pinned.checked.prog Rows.formsDoSameRow.origin Rows.formsDoSameRow.targs := of_decide_eq_true (by kernel_rfl)
theorem formsDoSame_wrap : Tryz.f8.isWrapper Tryz.pinned.checked.prog Rows.formsDoSameRow.wrapper Rows.formsDoSameRow.mainSum := by unfold Func.isWrapper; first | (rw [if_pos (by decide +kernel)]; kernel_rfl) | (rw [if_neg (by decide +kernel)]; exact ⟨rfl, rfl⟩)
theorem formsDoSame_main : Tryz.pinned.checked.prog.mainIs = some (Rows.formsDoSameCard.stood.harness.1, Rows.formsDoSameCard.stood.harness.2.toList) := by kernel_rfl
theorem formsDoSame_goes : false = Rows.formsDoSameRow.goesBy Tryz.pinned.checked.prog := by kernel_rfl
theorem formsDoSame_wf : Rows.formsDoSameRow.wfByText (OpenSpec.ofChange Rows.formsDoSameSpec) = true := by kernel_rfl
theorem formsDoSame_row : Rows.FormsDoSameSaid :=
  OpenClaim.holds_of_wide 8 Tryz.f8 rfl rfl rfl rfl rfl rfl rfl ⟨rfl, rfl, rfl, rfl, rfl⟩ rfl rfl rfl rfl rfl formsDoSame_named Tryz.func8 formsDoSame_facts formsDoSame_inst formsDoSame_wrap
    (fun os started H enc _ => formsDoSame_lifted os started H enc)
theorem formsDoSame_holds : Rows.FormsDoSameCardSaid :=
  Claim7.holds_tied_plain_at .later [] [.data, .pinned] true Rows.formsDoSameCard.stood.harness false formsDoSame_row (fun _ h => by cases h) formsDoSame_wf (fun _ h => by cases h) formsDoSame_row_tie rfl ⟨rfl, rfl⟩ formsDoSame_main rfl
    (fun f fn hf hfn => by
      obtain rfl : f = 8 := Option.some.inj (formsDoSame_named.symm.trans hf) |>.symm
      obtain rfl : fn = Tryz.f8 := (Option.some.inj (Tryz.func8.symm.trans hfn)).symm
      exact ⟨kc_looks, fun j t ht => by
        rw [Tryz.params8] at ht
        have hm : t ∈ [22] := by simpa using Array.mem_of_getElem? ht
        have hall : ([22].all fun u => !Tryz.prog.wantsStandIn u) = true := by kernel_rfl
        exact (show Tryz.prog.wantsStandIn t = false by simpa using List.all_eq_true.1 hall t hm)⟩)
    formsDoSame_goes
end Go.Proofs.YtdmeohgojdfmoaaGreatDoor
