/- The statement BridgesHangFree, a tied card: for every input the law returns true, and the input reads as it did. Conditions: none. -/
import Derived.Test.YtniolldgidgffaaGreatDoorQas
import Derived.Test.YtniolldgidgffaaGreatDoorQby
set_option linter.unusedSimpArgs false
set_option linter.unusedVariables false
/- The statement BridgesHangFree, a tied card: for every input the law returns true, and the input reads as it did. Conditions: none. -/
namespace Go.Proofs.YtniolldgidgffaaGreatDoor
open Go Go.ChangeShapes Go.WideShapes Go.ChangeAt Go.RowKit
set_option maxRecDepth 100000
theorem bridgesHangFree_contract (H : Type) (enc : TypeId × Value → H) (W : World) (base : Nat) (args : Array Value) (ds gs : List (DataW H)) (before : List MemPlace)
    (hval : ∀ (j : Nat) t v, Tryz.f7.params[j]? = some t → args[j]? = some v → Value.okWide Tryz.prog W .any base t v)
    (hW : DataW.Whole enc Tryz.prog Tryz.f7.params.toList Rows.bridgesHangFreeSpec.vars false W args.toList ds gs before) :
    Calls Tryz.prog 7 args W fun e W' => ∃ v, e = .returned v ∧ Rows.bridgesHangFreeSpec.post enc Tryz.prog Tryz.f7 false true false false W args v W' := by
 have hW' := hW
 obtain ⟨p, q, hA0, hV, rfl, hfz, hnd⟩ := hW
 have hA : DataW.TrodAll enc Tryz.prog W 0 (fun _ => true) true Tryz.f7.params.toList args.toList ds p := hA0
 rw [Tryz.params7] at hA hval
 obtain ⟨v0, d0, rfl, rfl, h0⟩ := trodAll_one hA
 obtain ⟨rfl, rfl⟩ := trodVars_none hV
 obtain ⟨A, len, cap, rfl⟩ := okWide_slice Tryz.underlying22 (hval 0 22 v0 rfl rfl)
 obtain ⟨fuel, hf⟩ := h0
 obtain ⟨zs, hs, hg⟩ := arg_ints hf
 refine (law_bridges (.slice A len cap) zs hs (fun b => b < W.heap.size) [] W (rh_none W) (fun x hx => by rw [List.mem_singleton.1 hx]; exact .c hg)).mono ?_
 rintro e W' ⟨u, H', ρ', S', rfl, rfl, -, -, hst, -⟩
 refine ⟨_, rfl, [d0], [], p ++ [], [], p, [], hW', trodAll_mk1 (shut_bool Tryz.underlying4 true), ?_, by exact rfl, kept_all hst, fun h => by cases h⟩
 refine trodAll_mk1 ⟨fuel, DataW.trod_stays Tryz.kids (fun {t e} => Tryz.full t e) (fun h => by cases h) (of_decide_eq_true (by kernel_rfl)) hf (fun q hq => same_all hst ?_) (fun q hq => ?_)⟩
 ·exact hW'.lt q (by simpa using hq)
 ·exact decide_eq_true (hW'.lt q (by simpa using hq))
theorem bridgesHangFree_t0 : Tryz.checked.prog.inits.idxOf? 7 = none := by kernel_rfl
theorem bridgesHangFree_t1 (os : Os) : Input.okWideB Tryz.checked.prog ((World.laidAll Tryz.prog os laidL).forCall (fun _ _ => 0) ⟨#[], #[.slice none 0 0], []⟩) 7 ⟨#[], #[.slice none 0 0], []⟩ = true := by kernel_rfl
theorem bridgesHangFree_t2 (H : Type) (enc : TypeId × Value → H) (os : Os) : Rows.bridgesHangFreeSpec.preB enc Tryz.checked.prog Tryz.f7 Rows.bridgesHangFreeRow.domain false ((World.laidAll Tryz.prog os laidL).forCall (fun _ _ => 0) ⟨#[], #[.slice none 0 0], []⟩).memory #[.slice none 0 0] 8 = true := by kernel_rfl
theorem bridgesHangFree_t3 (H : Type) (enc : TypeId × Value → H) (os : Os) : Rows.bridgesHangFreeSpec.sizedB enc Tryz.checked.prog Tryz.f7 false ((World.laidAll Tryz.prog os laidL).forCall (fun _ _ => 0) ⟨#[], #[.slice none 0 0], []⟩).memory #[.slice none 0 0] 8 = true := by kernel_rfl
set_option maxRecDepth 100000 in
theorem bridgesHangFree_lifted (os : Os) (started : os.Started) (H : Type) (enc : TypeId × Value → H) :
    ReturnsInHanded {} Tryz.checked os 7 .any (fun w args => (Rows.bridgesHangFreeSpec.pre enc Tryz.prog Tryz.f7 Rows.bridgesHangFreeRow.domain false w args ∧ laidMetH Tryz.prog laidL w) ∧ sizedMet enc Tryz.prog Tryz.f7 (OpenSpec.ofChange Rows.bridgesHangFreeSpec) false w args)
     (Rows.bridgesHangFreeSpec.post enc Tryz.prog Tryz.f7 false true false false) := by
 refine returnsInHanded_of_change_and (C := Tryz.checked) (X := fun w _ => laidMetH Tryz.prog laidL w) (fun _ _ _ hh h => h.of_heap hh) Tryz.own started bridgesHangFree_t0 Tryz.func7
  (ChangeSpec.witness_shaped (enc := enc) (C := Tryz.checked) (os := os) (X := fun w _ => laidMetH Tryz.prog laidL w) false (World.laidAll Tryz.prog os laidL) #[.slice none 0 0] 8 (World.laidAll_os _ _ _)
   (laid_shaped os) (bridgesHangFree_t1 os) (bridgesHangFree_t2 H enc os) (bridgesHangFree_t3 H enc os) (laid_met os)) ?_
 intro W base args ds gs before hval hW _ _ _ _
 exact bridgesHangFree_contract H enc W base args ds gs before hval hW
theorem bridgesHangFree_k1 : (Rows.bridgesHangFreeRow.inPlace == Tryz.pinned.checked.prog.inPlace 7) = true := by kernel_rfl
theorem bridgesHangFree_k2 : (Rows.bridgesHangFreeRow.unfollowed == Tryz.pinned.checked.prog.unfollowed 7) = true := by kernel_rfl
theorem bridgesHangFree_k3 : (Rows.bridgesHangFreeRow.recurses == Tryz.pinned.checked.prog.recurses 7) = true := by kernel_rfl
theorem bridgesHangFree_k4 : (Rows.bridgesHangFreeRow.named == Tryz.pinned.checked.prog.varsNamed 7) = true := by kernel_rfl
theorem bridgesHangFree_k5 : (Rows.bridgesHangFreeRow.lifted == Tryz.pinned.checked.prog.liftsFinal) = true := by kernel_rfl
theorem bridgesHangFree_k6 : (Tryz.pinned.checked.prog.make == some Rows.bridgesHangFreeRow.make) = true := by kernel_rfl
theorem bridgesHangFree_facts : joinedFacts Tryz.pinned.checked.prog 7 Tryz.f7 Rows.bridgesHangFreeSpec Rows.bridgesHangFreeRow = true := by
 unfold joinedFacts
 rw [kc_laidOut, kc_mapsRowed, kc_heard, kc_enter, bridgesHangFree_k1, bridgesHangFree_k2, bridgesHangFree_k3, bridgesHangFree_k4, bridgesHangFree_k5, bridgesHangFree_k6]
 kernel_rfl
theorem bridgesHangFree_named : Tryz.pinned.checked.prog.funcNamed Rows.bridgesHangFreeRow.func = some 7 := by kernel_rfl
theorem bridgesHangFree_inst : Tryz.f7.isInstance Tryz.pinned.checked.prog Rows.bridgesHangFreeRow.origin Rows.bridgesHangFreeRow.targs := of_decide_eq_true (by kernel_rfl)
theorem bridgesHangFree_wrap : Tryz.f7.isWrapper Tryz.pinned.checked.prog Rows.bridgesHangFreeRow.wrapper Rows.bridgesHangFreeRow.mainSum := by unfold Func.isWrapper; first | (rw [if_pos (by decide +kernel)]; kernel_rfl) | (rw [if_neg (by decide +kernel)]; exact ⟨rfl, rfl⟩)
theorem bridgesHangFree_main : Tryz.pinned.checked.prog.mainIs = some (Rows.bridgesHangFreeCard.stood.harness.1, Rows.bridgesHangFreeCard.stood.harness.2.toList) := by kernel_rfl
theorem bridgesHangFree_goes : false = Rows.bridgesHangFreeRow.goesBy Tryz.pinned.checked.prog := by kernel_rfl
theorem bridgesHangFree_wf : Rows.bridgesHangFreeRow.wfByText (OpenSpec.ofChange Rows.bridgesHangFreeSpec) = true := by kernel_rfl
theorem bridgesHangFree_row : Rows.BridgesHangFreeSaid :=
 OpenClaim.holds_of_wide 7 Tryz.f7 rfl rfl rfl rfl rfl rfl rfl ⟨rfl, rfl, rfl, rfl, rfl⟩ rfl rfl rfl rfl rfl bridgesHangFree_named Tryz.func7 bridgesHangFree_facts bridgesHangFree_inst bridgesHangFree_wrap
  (fun os started H enc _ => bridgesHangFree_lifted os started H enc)
theorem bridgesHangFree_holds : Rows.BridgesHangFreeCardSaid :=
 Claim7.holds_tied_plain_at .later [] [.data, .pinned] true Rows.bridgesHangFreeCard.stood.harness false bridgesHangFree_row (fun _ h => by cases h) bridgesHangFree_wf (fun _ h => by cases h) bridgesHangFree_row_tie rfl ⟨rfl, rfl⟩ bridgesHangFree_main rfl
  (fun f fn hf hfn => by
   obtain rfl : f = 7 := Option.some.inj (bridgesHangFree_named.symm.trans hf) |>.symm
   obtain rfl : fn = Tryz.f7 := (Option.some.inj (Tryz.func7.symm.trans hfn)).symm
   exact ⟨kc_looks, fun j t ht => by
    rw [Tryz.params7] at ht
    have hm : t ∈ [22] := by simpa using Array.mem_of_getElem? ht
    have hall : ([22].all fun u => !Tryz.prog.wantsStandIn u) = true := by kernel_rfl
    exact (show Tryz.prog.wantsStandIn t = false by simpa using List.all_eq_true.1 hall t hm)⟩)
  bridgesHangFree_goes
end Go.Proofs.YtniolldgidgffaaGreatDoor
