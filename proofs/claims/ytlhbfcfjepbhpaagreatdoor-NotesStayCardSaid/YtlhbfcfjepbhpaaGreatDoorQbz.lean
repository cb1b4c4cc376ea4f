/- NotesStay: notes that are passed stay as they are; results are new memory. Conditions: none but those of the given statement. -/
import Derived.Test.YtlhbfcfjepbhpaaGreatDoorQas
import Derived.Test.YtlhbfcfjepbhpaaGreatDoorQby
set_option linter.unusedSimpArgs false
set_option linter.unusedVariables false
namespace Go.Proofs.YtlhbfcfjepbhpaaGreatDoor
open Go Go.ChangeShapes Go.WideShapes Go.ChangeAt Go.RowKit
set_option maxRecDepth 100000
abbrev zR : List (String × DataW Unit) := Rows.notesStayRow.laid
theorem zo4 (os : Os) : ((World.laidAll Tryz.prog os zR).forCall (fun _ _ => 0) ⟨#[], #[.slice none 0 0], []⟩).Shaped Tryz.prog := World.shaped_of_ZipB (by kernel_rfl) (by kernel_rfl)
theorem notesStay_met (os : Os) : laidMetH Tryz.prog zR ((World.laidAll Tryz.prog os zR).forCall (fun _ _ => 0) ⟨#[], #[.slice none 0 0], []⟩).memory := by
 rw [MakeChecks.laidMetH_plain _ _ _ (by kernel_rfl)]; exact laidMet_laidAll _ (by kernel_rfl) (by kernel_rfl)
theorem notesStay_looks : Rows.notesStayCard.stood.looks = Tryz.pinned.checked.prog.looks [] := by kernel_rfl
theorem zG3 (H : Type) (enc : TypeId × Value → H) (W : World) (base : Nat) (args : Array Value) (ds gs : List (DataW H)) (before : List MemPlace)
    (hval : ∀ (j : Nat) t v, Tryz.f4.params[j]? = some t → args[j]? = some v → Value.okWide Tryz.prog W .any base t v)
    (hlaid : laidMetH Tryz.prog zR W) (hW : DataW.Whole enc Tryz.prog Tryz.f4.params.toList Rows.notesStaySpec.vars false W args.toList ds gs before) :
    Calls Tryz.prog 4 args W fun e W' => ∃ v, e = .returned v ∧ Rows.notesStaySpec.post enc Tryz.prog Tryz.f4 false true false false W args v W' := by
 have hW' := hW
 obtain ⟨p, q, hA0, hV, rfl, hfz, hnd⟩ := hW
 have hA : DataW.TrodAll enc Tryz.prog W 0 (fun _ => true) true Tryz.f4.params.toList args.toList ds p := hA0
 rw [Tryz.params4] at hA hval
 obtain ⟨v0, d0, rfl, rfl, h0⟩ := trodAll_one hA
 obtain ⟨rfl, rfl⟩ := trodVars_none hV
 obtain ⟨A, len, cap, rfl⟩ := okWide_slice Tryz.underlying22 (hval 0 22 v0 rfl rfl)
 obtain ⟨fuel, hf⟩ := h0
 obtain ⟨zs, hs, hg⟩ := arg_ints hf
 refine (law_nstay (.slice A len cap) zs hs (fun b => b < W.heap.size) [] W  (rh_none W) (fun x hx => by rw [List.mem_singleton.1 hx]; exact .c hg)).mono ?_
 rintro e W' ⟨u, H', ρ', S', rfl, rfl, -, -, hst, -⟩
 refine ⟨_, rfl, [d0], [], p ++ [], [], p, [], hW', trodAll_mk1 (shut_bool Tryz.underlying4 true), ?_, by exact rfl, kept_all hst, fun h => by cases h⟩
 refine trodAll_mk1 ⟨fuel, DataW.trod_stays Tryz.kids (fun {t e} => Tryz.full t e) (fun h => by cases h) (of_decide_eq_true (by kernel_rfl)) hf (fun q hq => same_all hst ?_) (fun q hq => ?_)⟩
 ·exact hW'.lt q (by simpa using hq)
 ·exact decide_eq_true (hW'.lt q (by simpa using hq))
theorem notesStay_t0 : Tryz.checked.prog.inits.idxOf? 4 = none := by kernel_rfl
theorem notesStay_t1 (os : Os) : Input.okWideB Tryz.checked.prog ((World.laidAll Tryz.prog os zR).forCall (fun _ _ => 0) ⟨#[], #[.slice none 0 0], []⟩) 4 ⟨#[], #[.slice none 0 0], []⟩ = true := by kernel_rfl
theorem notesStay_t2 (H : Type) (enc : TypeId × Value → H) (os : Os) : Rows.notesStaySpec.preB enc Tryz.checked.prog Tryz.f4 Rows.notesStayRow.domain false ((World.laidAll Tryz.prog os zR).forCall (fun _ _ => 0) ⟨#[], #[.slice none 0 0], []⟩).memory #[.slice none 0 0] 8 = true := by kernel_rfl
theorem notesStay_t3 (H : Type) (enc : TypeId × Value → H) (os : Os) : Rows.notesStaySpec.sizedB enc Tryz.checked.prog Tryz.f4 false ((World.laidAll Tryz.prog os zR).forCall (fun _ _ => 0) ⟨#[], #[.slice none 0 0], []⟩).memory #[.slice none 0 0] 8 = true := by kernel_rfl
set_option maxRecDepth 100000 in
theorem zp4 (os : Os) (started : os.Started) (H : Type) (enc : TypeId × Value → H) :
    ReturnsInHanded {} Tryz.checked os 4 .any (fun w args => (Rows.notesStaySpec.pre enc Tryz.prog Tryz.f4 Rows.notesStayRow.domain false w args ∧ laidMetH Tryz.prog zR w) ∧ sizedMet enc Tryz.prog Tryz.f4 (OpenSpec.ofChange Rows.notesStaySpec) false w args)
     (Rows.notesStaySpec.post enc Tryz.prog Tryz.f4 false true false false) := by
 refine returnsInHanded_of_change_and (C := Tryz.checked) (X := fun w _ => laidMetH Tryz.prog zR w) (fun _ _ _ hh h => h.of_heap hh) Tryz.own started notesStay_t0 Tryz.func4
  (ChangeSpec.witness_shaped (enc := enc) (C := Tryz.checked) (os := os) (X := fun w _ => laidMetH Tryz.prog zR w) false (World.laidAll Tryz.prog os zR) #[.slice none 0 0] 8 (World.laidAll_os _ _ _)
   (zo4 os) (notesStay_t1 os) (notesStay_t2 H enc os) (notesStay_t3 H enc os) (notesStay_met os)) ?_
 intro W base args ds gs before hval hW h1 h2 h3 h4
 exact zG3 H enc W base args ds gs before hval (by first | exact h1 | exact h2 | exact h3 | exact h4) hW
theorem notesStay_k1 : (Rows.notesStayRow.inPlace == Tryz.pinned.checked.prog.inPlace 4) = true := by kernel_rfl
theorem notesStay_k2 : (Rows.notesStayRow.unfollowed == Tryz.pinned.checked.prog.unfollowed 4) = true := by kernel_rfl
theorem notesStay_k3 : (Rows.notesStayRow.recurses == Tryz.pinned.checked.prog.recurses 4) = true := by kernel_rfl
theorem notesStay_k4 : (Rows.notesStayRow.named == Tryz.pinned.checked.prog.varsNamed 4) = true := by kernel_rfl
theorem notesStay_k5 : (Rows.notesStayRow.lifted == Tryz.pinned.checked.prog.liftsFinal) = true := by kernel_rfl
theorem notesStay_k6 : (Tryz.pinned.checked.prog.make == some Rows.notesStayRow.make) = true := by kernel_rfl
theorem notesStay_facts : joinedFacts Tryz.pinned.checked.prog 4 Tryz.f4 Rows.notesStaySpec Rows.notesStayRow = true := by
 unfold joinedFacts
 rw [kc_laidOut, kc_mapsRowed, kc_heard, kc_enter, notesStay_k1, notesStay_k2, notesStay_k3, notesStay_k4, notesStay_k5, notesStay_k6]
 kernel_rfl
theorem notesStay_named : Tryz.pinned.checked.prog.funcNamed Rows.notesStayRow.func = some 4 := by kernel_rfl
theorem notesStay_inst : Tryz.f4.isInstance Tryz.pinned.checked.prog Rows.notesStayRow.origin Rows.notesStayRow.targs := of_decide_eq_true (by kernel_rfl)
theorem notesStay_wrap : Tryz.f4.isWrapper Tryz.pinned.checked.prog Rows.notesStayRow.wrapper Rows.notesStayRow.mainSum := by unfold Func.isWrapper; first | (rw [if_pos (by decide +kernel)]; kernel_rfl) | (rw [if_neg (by decide +kernel)]; exact ⟨rfl, rfl⟩)
theorem notesStay_main : Tryz.pinned.checked.prog.mainIs = some (Rows.notesStayCard.stood.harness.1, Rows.notesStayCard.stood.harness.2.toList) := by kernel_rfl
theorem notesStay_goes : false = Rows.notesStayRow.goesBy Tryz.pinned.checked.prog := by kernel_rfl
theorem notesStay_wf : Rows.notesStayRow.wfByText (OpenSpec.ofChange Rows.notesStaySpec) = true := by kernel_rfl
theorem notesStay_row : Rows.NotesStaySaid :=
 OpenClaim.holds_of_wide 4 Tryz.f4 rfl rfl rfl rfl rfl rfl rfl ⟨rfl, rfl, rfl, rfl, rfl⟩ rfl rfl rfl rfl rfl notesStay_named Tryz.func4 notesStay_facts notesStay_inst notesStay_wrap
  (fun os started H enc _ => zp4 os started H enc)
theorem notesStay_holds : Rows.NotesStayCardSaid :=
 Claim7.holds_tied_plain_at .later [] Rows.notesStayCard.laidKinds true Rows.notesStayCard.stood.harness Rows.notesStayCard.stood.looks notesStay_row (fun _ h => by cases h) notesStay_wf (fun _ h => by cases h) notesStay_row_tie rfl ⟨rfl, rfl⟩ notesStay_main rfl
  (fun f fn hf hfn => by
   obtain rfl : f = 4 := Option.some.inj (notesStay_named.symm.trans hf) |>.symm
   obtain rfl : fn = Tryz.f4 := (Option.some.inj (Tryz.func4.symm.trans hfn)).symm
   exact ⟨notesStay_looks, fun j t ht => by
    rw [Tryz.params4] at ht
    have hm : t ∈ [22] := by simpa using Array.mem_of_getElem? ht
    have hall : ([22].all fun u => !Tryz.prog.wantsStandIn u) = true := by kernel_rfl
    exact (show Tryz.prog.wantsStandIn t = false by simpa using List.all_eq_true.1 hall t hm)⟩)
  notesStay_goes
end Go.Proofs.YtlhbfcfjepbhpaaGreatDoor
