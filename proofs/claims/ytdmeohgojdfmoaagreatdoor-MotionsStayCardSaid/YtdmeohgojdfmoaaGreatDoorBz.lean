/- The statement MotionsStay, a tied card: for every input the law returns true, and the input reads as it did. Conditions: none. -/
import Derived.Test.YtdmeohgojdfmoaaGreatDoorKc
import Derived.Test.YtdmeohgojdfmoaaGreatDoorBy
set_option linter.unusedSimpArgs false
set_option linter.unusedVariables false
/- The statement MotionsStay, a tied card: for every input the law returns true, and the input reads as it did. Conditions: none. -/
namespace Go.Proofs.YtdmeohgojdfmoaaGreatDoor
open Go Go.ChangeShapes Go.WideShapes Go.ChangeAt Go.RowKit
set_option maxRecDepth 100000
theorem motionsStay_contract (H : Type) (enc : TypeId × Value → H) (W : World) (base : Nat) (args : Array Value) (ds gs : List (DataW H)) (before : List MemPlace)
    (hval : ∀ (j : Nat) t v, Tryz.f10.params[j]? = some t → args[j]? = some v → Value.okWide Tryz.prog W .any base t v)
    (hW : DataW.Whole enc Tryz.prog Tryz.f10.params.toList Rows.motionsStaySpec.vars false W args.toList ds gs before) :
    Calls Tryz.prog 10 args W fun e W' => ∃ v, e = .returned v ∧ Rows.motionsStaySpec.post enc Tryz.prog Tryz.f10 false true false false W args v W' := by
  have hW' := hW
  obtain ⟨p, q, hA0, hV, rfl, hfz, hnd⟩ := hW
  have hA : DataW.TrodAll enc Tryz.prog W 0 (fun _ => true) true Tryz.f10.params.toList args.toList ds p := hA0
  rw [Tryz.params10] at hA hval
  obtain ⟨v0, d0, rfl, rfl, h0⟩ := trodAll_one hA
  obtain ⟨rfl, rfl⟩ := trodVars_none hV
  obtain ⟨A, len, cap, rfl⟩ := okWide_slice Tryz.underlying22 (hval 0 22 v0 rfl rfl)
  obtain ⟨fuel, hf⟩ := h0
  obtain ⟨zs, hs, hg⟩ := arg_ints hf
  refine (law_mstay (.slice A len cap) zs hs (fun b => b < W.heap.size) [] W (rh_none W) (fun x hx => by rw [List.mem_singleton.1 hx]; exact .c hg)).mono ?_
  rintro e W' ⟨u, H', ρ', S', rfl, rfl, -, -, hst, -⟩
  refine ⟨_, rfl, [d0], [], p ++ [], [], p, [], hW', trodAll_mk1 (shut_bool Tryz.underlying4 true), ?_, by exact rfl, kept_all hst, fun h => by cases h⟩
  refine trodAll_mk1 ⟨fuel, DataW.trod_stays Tryz.kids (fun {t e} => Tryz.full t e) (fun h => by cases h) (of_decide_eq_true (by kernel_rfl)) hf (fun q hq => same_all hst ?_) (fun q hq => ?_)⟩
  · exact hW'.lt q (by simpa using hq)
  · exact decide_eq_true (hW'.lt q (by simpa using hq))
theorem motionsStay_t0 : Tryz.checked.prog.inits.idxOf? 10 = none := by kernel_rfl
theorem motionsStay_t1 (os : Os) : Input.okWideB Tryz.checked.prog ((World.laidAll Tryz.prog os laidL).forCall (fun _ _ => 0) ⟨#[], #[.slice none 0 0], []⟩) 10 ⟨#[], #[.slice none 0 0], []⟩ = true := by kernel_rfl
theorem motionsStay_t2 (H : Type) (enc : TypeId × Value → H) (os : Os) : Rows.motionsStaySpec.preB enc Tryz.checked.prog Tryz.f10 Rows.motionsStayRow.domain false ((World.laidAll Tryz.prog os laidL).forCall (fun _ _ => 0) ⟨#[], #[.slice none 0 0], []⟩).memory #[.slice none 0 0] 8 = true := by kernel_rfl
theorem motionsStay_t3 (H : Type) (enc : TypeId × Value → H) (os : Os) : Rows.motionsStaySpec.sizedB enc Tryz.checked.prog Tryz.f10 false ((World.laidAll Tryz.prog os laidL).forCall (fun _ _ => 0) ⟨#[], #[.slice none 0 0], []⟩).memory #[.slice none 0 0] 8 = true := by kernel_rfl
set_option maxRecDepth 100000 in
theorem motionsStay_lifted (os : Os) (started : os.Started) (H : Type) (enc : TypeId × Value → H) :
    ReturnsInHanded {} Tryz.checked os 10 .any (fun w args => (Rows.motionsStaySpec.pre enc Tryz.prog Tryz.f10 Rows.motionsStayRow.domain false w args ∧ laidMetH Tryz.prog laidL w) ∧ sizedMet enc Tryz.prog Tryz.f10 (OpenSpec.ofChange Rows.motionsStaySpec) false w args)
      (Rows.motionsStaySpec.post enc Tryz.prog Tryz.f10 false true false false) := by
  refine returnsInHanded_of_change_and (C := Tryz.checked) (X := fun w _ => laidMetH Tryz.prog laidL w) (fun _ _ _ hh h => h.of_heap hh) Tryz.own started motionsStay_t0 Tryz.func10
    (ChangeSpec.witness_shaped (enc := enc) (C := Tryz.checked) (os := os) (X := fun w _ => laidMetH Tryz.prog laidL w) false (World.laidAll Tryz.prog os laidL) #[.slice none 0 0] 8 (World.laidAll_os _ _ _)
      (laid_shaped os) (motionsStay_t1 os) (motionsStay_t2 H enc os) (motionsStay_t3 H enc os) (laid_met os)) ?_
  intro W base args ds gs before hval hW _ _ _ _
  exact motionsStay_contract H enc W base args ds gs before hval hW
theorem motionsStay_k1 : (Rows.motionsStayRow.inPlace == Tryz.pinned.checked.prog.inPlace 10) = true := by kernel_rfl
theorem motionsStay_k2 : (Rows.motionsStayRow.unfollowed == Tryz.pinned.checked.prog.unfollowed 10) = true := by kernel_rfl
theorem motionsStay_k3 : (Rows.motionsStayRow.recurses == Tryz.pinned.checked.prog.recurses 10) = true := by kernel_rfl
theorem motionsStay_k4 : (Rows.motionsStayRow.named == Tryz.pinned.checked.prog.varsNamed 10) = true := by kernel_rfl
theorem motionsStay_k5 : (Rows.motionsStayRow.lifted == Tryz.pinned.checked.prog.liftsFinal) = true := by kernel_rfl
theorem motionsStay_k6 : (Tryz.pinned.checked.prog.make == some Rows.motionsStayRow.make) = true := by kernel_rfl
theorem motionsStay_facts : joinedFacts Tryz.pinned.checked.prog 10 Tryz.f10 Rows.motionsStaySpec Rows.motionsStayRow = true := by
  unfold joinedFacts
  rw [kc_laidOut, kc_mapsRowed, kc_heard, kc_enter, motionsStay_k1, motionsStay_k2, motionsStay_k3, motionsStay_k4, motionsStay_k5, motionsStay_k6]
  kernel_rfl
theorem motionsStay_named : Tryz.pinned.checked.prog.funcNamed Rows.motionsStayRow.func = some 10 := by kernel_rfl
theorem motionsStay_inst : Tryz.f10.isInstance Tryz.pinned.checked.prog Rows.motionsStayRow.origin Rows.motionsStayRow.targs := of_decide_eq_true (by kernel_rfl)
theorem motionsStay_wrap : Tryz.f10.isWrapper Tryz.pinned.checked.prog Rows.motionsStayRow.wrapper Rows.motionsStayRow.mainSum := by unfold Func.isWrapper; first | (rw [if_pos (by decide +kernel)]; kernel_rfl) | (rw [if_neg (by decide +kernel)]; exact ⟨rfl, rfl⟩)
theorem motionsStay_main : Tryz.pinned.checked.prog.mainIs = some (Rows.motionsStayCard.stood.harness.1, Rows.motionsStayCard.stood.harness.2.toList) := by kernel_rfl
theorem motionsStay_goes : false = Rows.motionsStayRow.goesBy Tryz.pinned.checked.prog := by kernel_rfl
theorem motionsStay_wf : Rows.motionsStayRow.wfByText (OpenSpec.ofChange Rows.motionsStaySpec) = true := by kernel_rfl
theorem motionsStay_row : Rows.MotionsStaySaid :=
  OpenClaim.holds_of_wide 10 Tryz.f10 rfl rfl rfl rfl rfl rfl rfl ⟨rfl, rfl, rfl, rfl, rfl⟩ rfl rfl rfl rfl rfl motionsStay_named Tryz.func10 motionsStay_facts motionsStay_inst motionsStay_wrap
    (fun os started H enc _ => motionsStay_lifted os started H enc)
theorem motionsStay_holds : Rows.MotionsStayCardSaid :=
  Claim7.holds_tied_plain_at .later [] [.data, .pinned] true Rows.motionsStayCard.stood.harness false motionsStay_row (fun _ h => by cases h) motionsStay_wf (fun _ h => by cases h) motionsStay_row_tie rfl ⟨rfl, rfl⟩ motionsStay_main rfl
    (fun f fn hf hfn => by
      obtain rfl : f = 10 := Option.some.inj (motionsStay_named.symm.trans hf) |>.symm
      obtain rfl : fn = Tryz.f10 := (Option.some.inj (Tryz.func10.symm.trans hfn)).symm
      exact ⟨kc_looks, fun j t ht => by
        rw [Tryz.params10] at ht
        have hm : t ∈ [22] := by simpa using Array.mem_of_getElem? ht
        have hall : ([22].all fun u => !Tryz.prog.wantsStandIn u) = true := by kernel_rfl
        exact (show Tryz.prog.wantsStandIn t = false by simpa using List.all_eq_true.1 hall t hm)⟩)
    motionsStay_goes
end Go.Proofs.YtdmeohgojdfmoaaGreatDoor
