/- NotesMerge: CheckNotes, Merge, Write and Counting are as the document says, for all notes and moments. Conditions: none but those of the given statement. -/
import Derived.Test.YtcchlddiggmcaaaGreatDoorQas
import Derived.Test.YtcchlddiggmcaaaGreatDoorQbw
set_option linter.unusedSimpArgs false
set_option linter.unusedVariables false
namespace Go.Proofs.YtcchlddiggmcaaaGreatDoor
open Go Go.ChangeShapes Go.WideShapes Go.ChangeAt Go.RowKit
set_option maxRecDepth 100000
theorem notesMerge_contract (H : Type) (enc : TypeId × Value → H) (W : World) (base : Nat) (args : Array Value) (ds gs : List (DataW H)) (before : List MemPlace)
    (hval : ∀ (j : Nat) t v, Tryz.f3.params[j]? = some t → args[j]? = some v → Value.okWide Tryz.prog W .any base t v)
    (hW : DataW.Whole enc Tryz.prog Tryz.f3.params.toList Rows.notesMergeSpec.vars false W args.toList ds gs before) :
    Calls Tryz.prog 3 args W fun e W' => ∃ v, e = .returned v ∧ Rows.notesMergeSpec.post enc Tryz.prog Tryz.f3 false true false false W args v W' := by
 have hW' := hW
 obtain ⟨p, q, hA0, hV, rfl, hfz, hnd⟩ := hW
 have hA : DataW.TrodAll enc Tryz.prog W 0 (fun _ => true) true Tryz.f3.params.toList args.toList ds p := hA0
 rw [Tryz.params3] at hA hval
 obtain ⟨v0, d0, rfl, rfl, h0⟩ := trodAll_one hA
 obtain ⟨rfl, rfl⟩ := trodVars_none hV
 obtain ⟨A, len, cap, rfl⟩ := okWide_slice Tryz.underlying22 (hval 0 22 v0 rfl rfl)
 obtain ⟨fuel, hf⟩ := h0
 obtain ⟨zs, hs, hg⟩ := arg_ints hf
 refine (law_merge (.slice A len cap) zs hs (fun b => b < W.heap.size) [] W (rh_none W) (fun x hx => by rw [List.mem_singleton.1 hx]; exact .c hg)).mono ?_
 rintro e W' ⟨u, H', ρ', S', rfl, rfl, -, -, hst, -⟩
 refine ⟨_, rfl, [d0], [], p ++ [], [], p, [], hW', trodAll_mk1 (shut_bool Tryz.underlying4 true), ?_, by exact rfl, kept_all hst, fun h => by cases h⟩
 refine trodAll_mk1 ⟨fuel, DataW.trod_stays Tryz.kids (fun {t e} => Tryz.full t e) (fun h => by cases h) (of_decide_eq_true (by kernel_rfl)) hf (fun q hq => same_all hst ?_) (fun q hq => ?_)⟩
 ·exact hW'.lt q (by simpa using hq)
 ·exact decide_eq_true (hW'.lt q (by simpa using hq))
theorem notesMerge_t0 : Tryz.checked.prog.inits.idxOf? 3 = none := by kernel_rfl
theorem notesMerge_t1 (os : Os) : Input.okWideB Tryz.checked.prog ((World.laidAll Tryz.prog os laidL).forCall (fun _ _ => 0) ⟨#[], #[.slice none 0 0], []⟩) 3 ⟨#[], #[.slice none 0 0], []⟩ = true := by kernel_rfl
theorem notesMerge_t2 (H : Type) (enc : TypeId × Value → H) (os : Os) : Rows.notesMergeSpec.preB enc Tryz.checked.prog Tryz.f3 Rows.notesMergeRow.domain false ((World.laidAll Tryz.prog os laidL).forCall (fun _ _ => 0) ⟨#[], #[.slice none 0 0], []⟩).memory #[.slice none 0 0] 8 = true := by kernel_rfl
theorem notesMerge_t3 (H : Type) (enc : TypeId × Value → H) (os : Os) : Rows.notesMergeSpec.sizedB enc Tryz.checked.prog Tryz.f3 false ((World.laidAll Tryz.prog os laidL).forCall (fun _ _ => 0) ⟨#[], #[.slice none 0 0], []⟩).memory #[.slice none 0 0] 8 = true := by kernel_rfl
set_option maxRecDepth 100000 in
theorem notesMerge_lifted (os : Os) (started : os.Started) (H : Type) (enc : TypeId × Value → H) :
    ReturnsInHanded {} Tryz.checked os 3 .any (fun w args => (Rows.notesMergeSpec.pre enc Tryz.prog Tryz.f3 Rows.notesMergeRow.domain false w args ∧ laidMetH Tryz.prog laidL w) ∧ sizedMet enc Tryz.prog Tryz.f3 (OpenSpec.ofChange Rows.notesMergeSpec) false w args)
     (Rows.notesMergeSpec.post enc Tryz.prog Tryz.f3 false true false false) := by
 refine returnsInHanded_of_change_and (C := Tryz.checked) (X := fun w _ => laidMetH Tryz.prog laidL w) (fun _ _ _ hh h => h.of_heap hh) Tryz.own started notesMerge_t0 Tryz.func3
  (ChangeSpec.witness_shaped (enc := enc) (C := Tryz.checked) (os := os) (X := fun w _ => laidMetH Tryz.prog laidL w) false (World.laidAll Tryz.prog os laidL) #[.slice none 0 0] 8 (World.laidAll_os _ _ _)
   (laid_shaped os) (notesMerge_t1 os) (notesMerge_t2 H enc os) (notesMerge_t3 H enc os) (laid_met os)) ?_
 intro W base args ds gs before hval hW _ _ _ _
 exact notesMerge_contract H enc W base args ds gs before hval hW
theorem notesMerge_k1 : (Rows.notesMergeRow.inPlace == Tryz.pinned.checked.prog.inPlace 3) = true := by kernel_rfl
theorem notesMerge_k2 : (Rows.notesMergeRow.unfollowed == Tryz.pinned.checked.prog.unfollowed 3) = true := by kernel_rfl
theorem notesMerge_k3 : (Rows.notesMergeRow.recurses == Tryz.pinned.checked.prog.recurses 3) = true := by kernel_rfl
theorem notesMerge_k4 : (Rows.notesMergeRow.named == Tryz.pinned.checked.prog.varsNamed 3) = true := by kernel_rfl
theorem notesMerge_k5 : (Rows.notesMergeRow.lifted == Tryz.pinned.checked.prog.liftsFinal) = true := by kernel_rfl
theorem notesMerge_k6 : (Tryz.pinned.checked.prog.make == some Rows.notesMergeRow.make) = true := by kernel_rfl
theorem notesMerge_facts : joinedFacts Tryz.pinned.checked.prog 3 Tryz.f3 Rows.notesMergeSpec Rows.notesMergeRow = true := by
 unfold joinedFacts
 rw [kc_laidOut, kc_mapsRowed, kc_heard, kc_enter, notesMerge_k1, notesMerge_k2, notesMerge_k3, notesMerge_k4, notesMerge_k5, notesMerge_k6]
 kernel_rfl
theorem notesMerge_named : Tryz.pinned.checked.prog.funcNamed Rows.notesMergeRow.func = some 3 := by kernel_rfl
theorem notesMerge_inst : Tryz.f3.isInstance Tryz.pinned.checked.prog Rows.notesMergeRow.origin Rows.notesMergeRow.targs := of_decide_eq_true (by kernel_rfl)
theorem notesMerge_wrap : Tryz.f3.isWrapper Tryz.pinned.checked.prog Rows.notesMergeRow.wrapper Rows.notesMergeRow.mainSum := by unfold Func.isWrapper; first | (rw [if_pos (by decide +kernel)]; kernel_rfl) | (rw [if_neg (by decide +kernel)]; exact ⟨rfl, rfl⟩)
theorem notesMerge_main : Tryz.pinned.checked.prog.mainIs = some (Rows.notesMergeCard.stood.harness.1, Rows.notesMergeCard.stood.harness.2.toList) := by kernel_rfl
theorem notesMerge_goes : false = Rows.notesMergeRow.goesBy Tryz.pinned.checked.prog := by kernel_rfl
theorem notesMerge_wf : Rows.notesMergeRow.wfByText (OpenSpec.ofChange Rows.notesMergeSpec) = true := by kernel_rfl
theorem notesMerge_row : Rows.NotesMergeSaid :=
 OpenClaim.holds_of_wide 3 Tryz.f3 rfl rfl rfl rfl rfl rfl rfl ⟨rfl, rfl, rfl, rfl, rfl⟩ rfl rfl rfl rfl rfl notesMerge_named Tryz.func3 notesMerge_facts notesMerge_inst notesMerge_wrap
  (fun os started H enc _ => notesMerge_lifted os started H enc)
theorem notesMerge_holds : Rows.NotesMergeCardSaid :=
 Claim7.holds_tied_plain_at .later [] [.data, .pinned] true Rows.notesMergeCard.stood.harness false notesMerge_row (fun _ h => by cases h) notesMerge_wf (fun _ h => by cases h) notesMerge_row_tie rfl ⟨rfl, rfl⟩ notesMerge_main rfl
  (fun f fn hf hfn => by
   obtain rfl : f = 3 := Option.some.inj (notesMerge_named.symm.trans hf) |>.symm
   obtain rfl : fn = Tryz.f3 := (Option.some.inj (Tryz.func3.symm.trans hfn)).symm
   exact ⟨kc_looks, fun j t ht => by
    rw [Tryz.params3] at ht
    have hm : t ∈ [22] := by simpa using Array.mem_of_getElem? ht
    have hall : ([22].all fun u => !Tryz.prog.wantsStandIn u) = true := by kernel_rfl
    exact (show Tryz.prog.wantsStandIn t = false by simpa using List.all_eq_true.1 hall t hm)⟩)
  notesMerge_goes
end Go.Proofs.YtcchlddiggmcaaaGreatDoor
