/- NoteTexts: Text and Read are as specified for all notes and strings. Conditions: none but those of the given statement. -/
import Derived.Test.YtlhbfcfjepbhpaaGreatDoorQas
import Derived.Test.YtlhbfcfjepbhpaaGreatDoorQby
set_option linter.unusedSimpArgs false
set_option linter.unusedVariables false
namespace Go.Proofs.YtlhbfcfjepbhpaaGreatDoor
open Go Go.ChangeShapes Go.WideShapes Go.ChangeAt Go.RowKit
set_option maxRecDepth 100000
theorem noteTexts_tab {W : World} (h : laidMetH Tryz.prog Rows.noteTextsRow.laid W) : TabX.X W [] [] := by
 rw [MakeChecks.laidMetH_plain _ _ _ (by kernel_rfl)] at h
 exact tab_of (laidMet.tail (laidMet.tail h))
abbrev zP : List (String × DataW Unit) := Rows.noteTextsRow.laid
theorem zd4 (os : Os) : ((World.laidAll Tryz.prog os zP).forCall (fun _ _ => 0) ⟨#[], #[.slice none 0 0], []⟩).Shaped Tryz.prog := World.shaped_of_ZipB (by kernel_rfl) (by kernel_rfl)
theorem noteTexts_met (os : Os) : laidMetH Tryz.prog zP ((World.laidAll Tryz.prog os zP).forCall (fun _ _ => 0) ⟨#[], #[.slice none 0 0], []⟩).memory := by
 rw [MakeChecks.laidMetH_plain _ _ _ (by kernel_rfl)]; exact laidMet_laidAll _ (by kernel_rfl) (by kernel_rfl)
theorem noteTexts_looks : Rows.noteTextsCard.stood.looks = Tryz.pinned.checked.prog.looks [] := by kernel_rfl
theorem zF3 (H : Type) (enc : TypeId × Value → H) (W : World) (base : Nat) (args : Array Value) (ds gs : List (DataW H)) (before : List MemPlace)
    (hval : ∀ (j : Nat) t v, Tryz.f3.params[j]? = some t → args[j]? = some v → Value.okWide Tryz.prog W .any base t v)
    (hlaid : laidMetH Tryz.prog zP W) (hW : DataW.Whole enc Tryz.prog Tryz.f3.params.toList Rows.noteTextsSpec.vars false W args.toList ds gs before) :
    Calls Tryz.prog 3 args W fun e W' => ∃ v, e = .returned v ∧ Rows.noteTextsSpec.post enc Tryz.prog Tryz.f3 false true false false W args v W' := by
 have hW' := hW
 obtain ⟨p, q, hA0, hV, rfl, hfz, hnd⟩ := hW
 have hA : DataW.TrodAll enc Tryz.prog W 0 (fun _ => true) true Tryz.f3.params.toList args.toList ds p := hA0
 rw [Tryz.params3] at hA hval
 obtain ⟨v0, d0, rfl, rfl, h0⟩ := trodAll_one hA
 obtain ⟨rfl, rfl⟩ := trodVars_none hV
 obtain ⟨A, len, cap, rfl⟩ := okWide_slice Tryz.underlying22 (hval 0 22 v0 rfl rfl)
 obtain ⟨fuel, hf⟩ := h0
 obtain ⟨zs, hs, hg⟩ := arg_ints hf
 refine (law_texts (.slice A len cap) zs hs (fun b => b < W.heap.size) [] W (noteTexts_tab hlaid) (rh_none W) (fun x hx => by rw [List.mem_singleton.1 hx]; exact .c hg)).mono ?_
 rintro e W' ⟨u, H', ρ', S', rfl, rfl, -, -, hst, -⟩
 refine ⟨_, rfl, [d0], [], p ++ [], [], p, [], hW', trodAll_mk1 (shut_bool Tryz.underlying4 true), ?_, by exact rfl, kept_all hst, fun h => by cases h⟩
 refine trodAll_mk1 ⟨fuel, DataW.trod_stays Tryz.kids (fun {t e} => Tryz.full t e) (fun h => by cases h) (of_decide_eq_true (by kernel_rfl)) hf (fun q hq => same_all hst ?_) (fun q hq => ?_)⟩
 ·exact hW'.lt q (by simpa using hq)
 ·exact decide_eq_true (hW'.lt q (by simpa using hq))
theorem noteTexts_t0 : Tryz.checked.prog.inits.idxOf? 3 = none := by kernel_rfl
theorem noteTexts_t1 (os : Os) : Input.okWideB Tryz.checked.prog ((World.laidAll Tryz.prog os zP).forCall (fun _ _ => 0) ⟨#[], #[.slice none 0 0], []⟩) 3 ⟨#[], #[.slice none 0 0], []⟩ = true := by kernel_rfl
theorem noteTexts_t2 (H : Type) (enc : TypeId × Value → H) (os : Os) : Rows.noteTextsSpec.preB enc Tryz.checked.prog Tryz.f3 Rows.noteTextsRow.domain false ((World.laidAll Tryz.prog os zP).forCall (fun _ _ => 0) ⟨#[], #[.slice none 0 0], []⟩).memory #[.slice none 0 0] 8 = true := by kernel_rfl
theorem noteTexts_t3 (H : Type) (enc : TypeId × Value → H) (os : Os) : Rows.noteTextsSpec.sizedB enc Tryz.checked.prog Tryz.f3 false ((World.laidAll Tryz.prog os zP).forCall (fun _ _ => 0) ⟨#[], #[.slice none 0 0], []⟩).memory #[.slice none 0 0] 8 = true := by kernel_rfl
set_option maxRecDepth 100000 in
theorem ze4 (os : Os) (started : os.Started) (H : Type) (enc : TypeId × Value → H) :
    ReturnsInHanded {} Tryz.checked os 3 .any (fun w args => (Rows.noteTextsSpec.pre enc Tryz.prog Tryz.f3 Rows.noteTextsRow.domain false w args ∧ laidMetH Tryz.prog zP w) ∧ sizedMet enc Tryz.prog Tryz.f3 (OpenSpec.ofChange Rows.noteTextsSpec) false w args)
     (Rows.noteTextsSpec.post enc Tryz.prog Tryz.f3 false true false false) := by
 refine returnsInHanded_of_change_and (C := Tryz.checked) (X := fun w _ => laidMetH Tryz.prog zP w) (fun _ _ _ hh h => h.of_heap hh) Tryz.own started noteTexts_t0 Tryz.func3
  (ChangeSpec.witness_shaped (enc := enc) (C := Tryz.checked) (os := os) (X := fun w _ => laidMetH Tryz.prog zP w) false (World.laidAll Tryz.prog os zP) #[.slice none 0 0] 8 (World.laidAll_os _ _ _)
   (zd4 os) (noteTexts_t1 os) (noteTexts_t2 H enc os) (noteTexts_t3 H enc os) (noteTexts_met os)) ?_
 intro W base args ds gs before hval hW h1 h2 h3 h4
 exact zF3 H enc W base args ds gs before hval (by first | exact h1 | exact h2 | exact h3 | exact h4) hW
theorem noteTexts_k1 : (Rows.noteTextsRow.inPlace == Tryz.pinned.checked.prog.inPlace 3) = true := by kernel_rfl
theorem noteTexts_k2 : (Rows.noteTextsRow.unfollowed == Tryz.pinned.checked.prog.unfollowed 3) = true := by kernel_rfl
theorem noteTexts_k3 : (Rows.noteTextsRow.recurses == Tryz.pinned.checked.prog.recurses 3) = true := by kernel_rfl
theorem noteTexts_k4 : (Rows.noteTextsRow.named == Tryz.pinned.checked.prog.varsNamed 3) = true := by kernel_rfl
theorem noteTexts_k5 : (Rows.noteTextsRow.lifted == Tryz.pinned.checked.prog.liftsFinal) = true := by kernel_rfl
theorem noteTexts_k6 : (Tryz.pinned.checked.prog.make == some Rows.noteTextsRow.make) = true := by kernel_rfl
theorem noteTexts_facts : joinedFacts Tryz.pinned.checked.prog 3 Tryz.f3 Rows.noteTextsSpec Rows.noteTextsRow = true := by
 unfold joinedFacts
 rw [kc_laidOut, kc_mapsRowed, kc_heard, kc_enter, noteTexts_k1, noteTexts_k2, noteTexts_k3, noteTexts_k4, noteTexts_k5, noteTexts_k6]
 kernel_rfl
theorem noteTexts_named : Tryz.pinned.checked.prog.funcNamed Rows.noteTextsRow.func = some 3 := by kernel_rfl
theorem noteTexts_inst : Tryz.f3.isInstance Tryz.pinned.checked.prog Rows.noteTextsRow.origin Rows.noteTextsRow.targs := of_decide_eq_true (by kernel_rfl)
theorem noteTexts_wrap : Tryz.f3.isWrapper Tryz.pinned.checked.prog Rows.noteTextsRow.wrapper Rows.noteTextsRow.mainSum := by unfold Func.isWrapper; first | (rw [if_pos (by decide +kernel)]; kernel_rfl) | (rw [if_neg (by decide +kernel)]; exact ⟨rfl, rfl⟩)
theorem noteTexts_main : Tryz.pinned.checked.prog.mainIs = some (Rows.noteTextsCard.stood.harness.1, Rows.noteTextsCard.stood.harness.2.toList) := by kernel_rfl
theorem noteTexts_goes : false = Rows.noteTextsRow.goesBy Tryz.pinned.checked.prog := by kernel_rfl
theorem noteTexts_wf : Rows.noteTextsRow.wfByText (OpenSpec.ofChange Rows.noteTextsSpec) = true := by kernel_rfl
theorem noteTexts_row : Rows.NoteTextsSaid :=
 OpenClaim.holds_of_wide 3 Tryz.f3 rfl rfl rfl rfl rfl rfl rfl ⟨rfl, rfl, rfl, rfl, rfl⟩ rfl rfl rfl rfl rfl noteTexts_named Tryz.func3 noteTexts_facts noteTexts_inst noteTexts_wrap
  (fun os started H enc _ => ze4 os started H enc)
theorem noteTexts_holds : Rows.NoteTextsCardSaid :=
 Claim7.holds_tied_plain_at .later [] Rows.noteTextsCard.laidKinds true Rows.noteTextsCard.stood.harness Rows.noteTextsCard.stood.looks noteTexts_row (fun _ h => by cases h) noteTexts_wf (fun _ h => by cases h) noteTexts_row_tie rfl ⟨rfl, rfl⟩ noteTexts_main rfl
  (fun f fn hf hfn => by
   obtain rfl : f = 3 := Option.some.inj (noteTexts_named.symm.trans hf) |>.symm
   obtain rfl : fn = Tryz.f3 := (Option.some.inj (Tryz.func3.symm.trans hfn)).symm
   exact ⟨noteTexts_looks, fun j t ht => by
    rw [Tryz.params3] at ht
    have hm : t ∈ [22] := by simpa using Array.mem_of_getElem? ht
    have hall : ([22].all fun u => !Tryz.prog.wantsStandIn u) = true := by kernel_rfl
    exact (show Tryz.prog.wantsStandIn t = false by simpa using List.all_eq_true.1 hall t hm)⟩)
  noteTexts_goes
end Go.Proofs.YtlhbfcfjepbhpaaGreatDoor
