/- The statement LinesCoverRows, a tied card: for every input the law returns true, and the input reads as it did. Conditions: none. -/
import Derived.Test.YtfilfijammemfaaGreatDoorQaq
import Derived.Test.YtfilfijammemfaaGreatDoorQby
set_option linter.unusedSimpArgs false
set_option linter.unusedVariables false
namespace Go.Proofs.YtfilfijammemfaaGreatDoor
open Go Go.ChangeShapes Go.WideShapes Go.ChangeAt Go.RowKit
set_option maxRecDepth 100000
theorem linesCoverRows_contract (H : Type) (enc : TypeId × Value → H) (W : World) (base : Nat) (args : Array Value) (ds gs : List (DataW H)) (before : List MemPlace)
    (hval : ∀ (j : Nat) t v, Tryz.f4.params[j]? = some t → args[j]? = some v → Value.okWide Tryz.prog W .any base t v)
    (hW : DataW.Whole enc Tryz.prog Tryz.f4.params.toList Rows.linesCoverRowsSpec.vars false W args.toList ds gs before) :
    Calls Tryz.prog 4 args W fun e W' => ∃ v, e = .returned v ∧ Rows.linesCoverRowsSpec.post enc Tryz.prog Tryz.f4 false true false false W args v W' := by
 have hW' := hW
 obtain ⟨p, q, hA0, hV, rfl, hfz, hnd⟩ := hW
 have hA : DataW.TrodAll enc Tryz.prog W 0 (fun _ => true) true Tryz.f4.params.toList args.toList ds p := hA0
 rw [Tryz.params4] at hA hval
 obtain ⟨v0, d0, rfl, rfl, h0⟩ := trodAll_one hA
 obtain ⟨rfl, rfl⟩ := trodVars_none hV
 obtain ⟨A, len, cap, rfl⟩ := okWide_slice Tryz.underlying22 (hval 0 22 v0 rfl rfl)
 obtain ⟨fuel, hf⟩ := h0
 obtain ⟨zs, hs, hg⟩ := arg_ints hf
 refine (law_rows (.slice A len cap) zs hs (fun b => b < W.heap.size) [] W (rh_none W) (fun x hx => by rw [List.mem_singleton.1 hx]; exact .c hg)).mono ?_
 rintro e W' ⟨u, H', ρ', S', rfl, rfl, -, -, hst, -⟩
 refine ⟨_, rfl, [d0], [], p ++ [], [], p, [], hW', trodAll_mk1 (shut_bool Tryz.underlying4 true), ?_, by exact rfl, kept_all hst, fun h => by cases h⟩
 refine trodAll_mk1 ⟨fuel, DataW.trod_stays Tryz.kids (fun {t e} => Tryz.full t e) (fun h => by cases h) (of_decide_eq_true (by kernel_rfl)) hf (fun q hq => same_all hst ?_) (fun q hq => ?_)⟩
 ·exact hW'.lt q (by simpa using hq)
 ·exact decide_eq_true (hW'.lt q (by simpa using hq))
theorem linesCoverRows_t0 : Tryz.checked.prog.inits.idxOf? 4 = none := by kernel_rfl
theorem linesCoverRows_t1 (os : Os) : Input.okWideB Tryz.checked.prog ((World.laidAll Tryz.prog os laidL).forCall (fun _ _ => 0) ⟨#[], #[.slice none 0 0], []⟩) 4 ⟨#[], #[.slice none 0 0], []⟩ = true := by kernel_rfl
theorem linesCoverRows_t2 (H : Type) (enc : TypeId × Value → H) (os : Os) : Rows.linesCoverRowsSpec.preB enc Tryz.checked.prog Tryz.f4 Rows.linesCoverRowsRow.domain false ((World.laidAll Tryz.prog os laidL).forCall (fun _ _ => 0) ⟨#[], #[.slice none 0 0], []⟩).memory #[.slice none 0 0] 8 = true := by kernel_rfl
theorem linesCoverRows_t3 (H : Type) (enc : TypeId × Value → H) (os : Os) : Rows.linesCoverRowsSpec.sizedB enc Tryz.checked.prog Tryz.f4 false ((World.laidAll Tryz.prog os laidL).forCall (fun _ _ => 0) ⟨#[], #[.slice none 0 0], []⟩).memory #[.slice none 0 0] 8 = true := by kernel_rfl
set_option maxRecDepth 100000 in
theorem linesCoverRows_lifted (os : Os) (started : os.Started) (H : Type) (enc : TypeId × Value → H) :
    ReturnsInHanded {} Tryz.checked os 4 .any (fun w args => (Rows.linesCoverRowsSpec.pre enc Tryz.prog Tryz.f4 Rows.linesCoverRowsRow.domain false w args ∧ laidMetH Tryz.prog laidL w) ∧ sizedMet enc Tryz.prog Tryz.f4 (OpenSpec.ofChange Rows.linesCoverRowsSpec) false w args)
     (Rows.linesCoverRowsSpec.post enc Tryz.prog Tryz.f4 false true false false) := by
 refine returnsInHanded_of_change_and (C := Tryz.checked) (X := fun w _ => laidMetH Tryz.prog laidL w) (fun _ _ _ hh h => h.of_heap hh) Tryz.own started linesCoverRows_t0 Tryz.func4
  (ChangeSpec.witness_shaped (enc := enc) (C := Tryz.checked) (os := os) (X := fun w _ => laidMetH Tryz.prog laidL w) false (World.laidAll Tryz.prog os laidL) #[.slice none 0 0] 8 (World.laidAll_os _ _ _)
   (laid_shaped os) (linesCoverRows_t1 os) (linesCoverRows_t2 H enc os) (linesCoverRows_t3 H enc os) (laid_met os)) ?_
 intro W base args ds gs before hval hW _ _ _ _
 exact linesCoverRows_contract H enc W base args ds gs before hval hW
theorem linesCoverRows_k1 : (Rows.linesCoverRowsRow.inPlace == Tryz.pinned.checked.prog.inPlace 4) = true := by kernel_rfl
theorem linesCoverRows_k2 : (Rows.linesCoverRowsRow.unfollowed == Tryz.pinned.checked.prog.unfollowed 4) = true := by kernel_rfl
theorem linesCoverRows_k3 : (Rows.linesCoverRowsRow.recurses == Tryz.pinned.checked.prog.recurses 4) = true := by kernel_rfl
theorem linesCoverRows_k4 : (Rows.linesCoverRowsRow.named == Tryz.pinned.checked.prog.varsNamed 4) = true := by kernel_rfl
theorem linesCoverRows_k5 : (Rows.linesCoverRowsRow.lifted == Tryz.pinned.checked.prog.liftsFinal) = true := by kernel_rfl
theorem linesCoverRows_k6 : (Tryz.pinned.checked.prog.make == some Rows.linesCoverRowsRow.make) = true := by kernel_rfl
theorem linesCoverRows_facts : joinedFacts Tryz.pinned.checked.prog 4 Tryz.f4 Rows.linesCoverRowsSpec Rows.linesCoverRowsRow = true := by
 unfold joinedFacts
 rw [kc_laidOut, kc_mapsRowed, kc_heard, kc_enter, linesCoverRows_k1, linesCoverRows_k2, linesCoverRows_k3, linesCoverRows_k4, linesCoverRows_k5, linesCoverRows_k6]
 kernel_rfl
theorem linesCoverRows_named : Tryz.pinned.checked.prog.funcNamed Rows.linesCoverRowsRow.func = some 4 := by kernel_rfl
theorem linesCoverRows_inst : Tryz.f4.isInstance Tryz.pinned.checked.prog Rows.linesCoverRowsRow.origin Rows.linesCoverRowsRow.targs := of_decide_eq_true (by kernel_rfl)
theorem linesCoverRows_wrap : Tryz.f4.isWrapper Tryz.pinned.checked.prog Rows.linesCoverRowsRow.wrapper Rows.linesCoverRowsRow.mainSum := by unfold Func.isWrapper; first | (rw [if_pos (by decide +kernel)]; kernel_rfl) | (rw [if_neg (by decide +kernel)]; exact ⟨rfl, rfl⟩)
theorem linesCoverRows_main : Tryz.pinned.checked.prog.mainIs = some (Rows.linesCoverRowsCard.stood.harness.1, Rows.linesCoverRowsCard.stood.harness.2.toList) := by kernel_rfl
theorem linesCoverRows_goes : false = Rows.linesCoverRowsRow.goesBy Tryz.pinned.checked.prog := by kernel_rfl
theorem linesCoverRows_wf : Rows.linesCoverRowsRow.wfByText (OpenSpec.ofChange Rows.linesCoverRowsSpec) = true := by kernel_rfl
theorem linesCoverRows_row : Rows.LinesCoverRowsSaid :=
 OpenClaim.holds_of_wide 4 Tryz.f4 rfl rfl rfl rfl rfl rfl rfl ⟨rfl, rfl, rfl, rfl, rfl⟩ rfl rfl rfl rfl rfl linesCoverRows_named Tryz.func4 linesCoverRows_facts linesCoverRows_inst linesCoverRows_wrap
  (fun os started H enc _ => linesCoverRows_lifted os started H enc)
theorem linesCoverRows_holds : Rows.LinesCoverRowsCardSaid :=
 Claim7.holds_tied_plain_at .later [] [.data, .pinned] true Rows.linesCoverRowsCard.stood.harness false linesCoverRows_row (fun _ h => by cases h) linesCoverRows_wf (fun _ h => by cases h) linesCoverRows_row_tie rfl ⟨rfl, rfl⟩ linesCoverRows_main rfl
  (fun f fn hf hfn => by
   obtain rfl : f = 4 := Option.some.inj (linesCoverRows_named.symm.trans hf) |>.symm
   obtain rfl : fn = Tryz.f4 := (Option.some.inj (Tryz.func4.symm.trans hfn)).symm
   exact ⟨kc_looks, fun j t ht => by
    rw [Tryz.params4] at ht
    have hm : t ∈ [22] := by simpa using Array.mem_of_getElem? ht
    have hall : ([22].all fun u => !Tryz.prog.wantsStandIn u) = true := by kernel_rfl
    exact (show Tryz.prog.wantsStandIn t = false by simpa using List.all_eq_true.1 hall t hm)⟩)
  linesCoverRows_goes
end Go.Proofs.YtfilfijammemfaaGreatDoor
