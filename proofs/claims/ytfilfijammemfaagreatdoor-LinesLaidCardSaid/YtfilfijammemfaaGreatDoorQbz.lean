/- The statement LinesLaid, a tied card: for every input the law returns true, and the input reads as it did. Conditions: none. -/
import Derived.Test.YtfilfijammemfaaGreatDoorQas
import Derived.Test.YtfilfijammemfaaGreatDoorQby
set_option linter.unusedSimpArgs false
set_option linter.unusedVariables false
/- The statement LinesLaid, a tied card: for every input the law returns true, and the input reads as it did. Conditions: none. -/
namespace Go.Proofs.YtfilfijammemfaaGreatDoor
open Go Go.ChangeShapes Go.WideShapes Go.ChangeAt Go.RowKit
set_option maxRecDepth 100000
theorem linesLaid_contract (H : Type) (enc : TypeId × Value → H) (W : World) (base : Nat) (args : Array Value) (ds gs : List (DataW H)) (before : List MemPlace)
    (hval : ∀ (j : Nat) t v, Tryz.f3.params[j]? = some t → args[j]? = some v → Value.okWide Tryz.prog W .any base t v)
    (hW : DataW.Whole enc Tryz.prog Tryz.f3.params.toList Rows.linesLaidSpec.vars false W args.toList ds gs before) :
    Calls Tryz.prog 3 args W fun e W' => ∃ v, e = .returned v ∧ Rows.linesLaidSpec.post enc Tryz.prog Tryz.f3 false true false false W args v W' := by
 have hW' := hW
 obtain ⟨p, q, hA0, hV, rfl, hfz, hnd⟩ := hW
 have hA : DataW.TrodAll enc Tryz.prog W 0 (fun _ => true) true Tryz.f3.params.toList args.toList ds p := hA0
 rw [Tryz.params3] at hA hval
 obtain ⟨v0, d0, rfl, rfl, h0⟩ := trodAll_one hA
 obtain ⟨rfl, rfl⟩ := trodVars_none hV
 obtain ⟨A, len, cap, rfl⟩ := okWide_slice Tryz.underlying22 (hval 0 22 v0 rfl rfl)
 obtain ⟨fuel, hf⟩ := h0
 obtain ⟨zs, hs, hg⟩ := arg_ints hf
 refine (law_lines (.slice A len cap) zs hs (fun b => b < W.heap.size) [] W (rh_none W) (fun x hx => by rw [List.mem_singleton.1 hx]; exact .c hg)).mono ?_
 rintro e W' ⟨u, H', ρ', S', rfl, rfl, -, -, hst, -⟩
 refine ⟨_, rfl, [d0], [], p ++ [], [], p, [], hW', trodAll_mk1 (shut_bool Tryz.underlying4 true), ?_, by exact rfl, kept_all hst, fun h => by cases h⟩
 refine trodAll_mk1 ⟨fuel, DataW.trod_stays Tryz.kids (fun {t e} => Tryz.full t e) (fun h => by cases h) (of_decide_eq_true (by kernel_rfl)) hf (fun q hq => same_all hst ?_) (fun q hq => ?_)⟩
 ·exact hW'.lt q (by simpa using hq)
 ·exact decide_eq_true (hW'.lt q (by simpa using hq))
theorem linesLaid_t0 : Tryz.checked.prog.inits.idxOf? 3 = none := by kernel_rfl
theorem linesLaid_t1 (os : Os) : Input.okWideB Tryz.checked.prog ((World.laidAll Tryz.prog os laidL).forCall (fun _ _ => 0) ⟨#[], #[.slice none 0 0], []⟩) 3 ⟨#[], #[.slice none 0 0], []⟩ = true := by kernel_rfl
theorem linesLaid_t2 (H : Type) (enc : TypeId × Value → H) (os : Os) : Rows.linesLaidSpec.preB enc Tryz.checked.prog Tryz.f3 Rows.linesLaidRow.domain false ((World.laidAll Tryz.prog os laidL).forCall (fun _ _ => 0) ⟨#[], #[.slice none 0 0], []⟩).memory #[.slice none 0 0] 8 = true := by kernel_rfl
theorem linesLaid_t3 (H : Type) (enc : TypeId × Value → H) (os : Os) : Rows.linesLaidSpec.sizedB enc Tryz.checked.prog Tryz.f3 false ((World.laidAll Tryz.prog os laidL).forCall (fun _ _ => 0) ⟨#[], #[.slice none 0 0], []⟩).memory #[.slice none 0 0] 8 = true := by kernel_rfl
set_option maxRecDepth 100000 in
theorem linesLaid_lifted (os : Os) (started : os.Started) (H : Type) (enc : TypeId × Value → H) :
    ReturnsInHanded {} Tryz.checked os 3 .any (fun w args => (Rows.linesLaidSpec.pre enc Tryz.prog Tryz.f3 Rows.linesLaidRow.domain false w args ∧ laidMetH Tryz.prog laidL w) ∧ sizedMet enc Tryz.prog Tryz.f3 (OpenSpec.ofChange Rows.linesLaidSpec) false w args)
     (Rows.linesLaidSpec.post enc Tryz.prog Tryz.f3 false true false false) := by
 refine returnsInHanded_of_change_and (C := Tryz.checked) (X := fun w _ => laidMetH Tryz.prog laidL w) (fun _ _ _ hh h => h.of_heap hh) Tryz.own started linesLaid_t0 Tryz.func3
  (ChangeSpec.witness_shaped (enc := enc) (C := Tryz.checked) (os := os) (X := fun w _ => laidMetH Tryz.prog laidL w) false (World.laidAll Tryz.prog os laidL) #[.slice none 0 0] 8 (World.laidAll_os _ _ _)
   (laid_shaped os) (linesLaid_t1 os) (linesLaid_t2 H enc os) (linesLaid_t3 H enc os) (laid_met os)) ?_
 intro W base args ds gs before hval hW _ _ _ _
 exact linesLaid_contract H enc W base args ds gs before hval hW
theorem linesLaid_k1 : (Rows.linesLaidRow.inPlace == Tryz.pinned.checked.prog.inPlace 3) = true := by kernel_rfl
theorem linesLaid_k2 : (Rows.linesLaidRow.unfollowed == Tryz.pinned.checked.prog.unfollowed 3) = true := by kernel_rfl
theorem linesLaid_k3 : (Rows.linesLaidRow.recurses == Tryz.pinned.checked.prog.recurses 3) = true := by kernel_rfl
theorem linesLaid_k4 : (Rows.linesLaidRow.named == Tryz.pinned.checked.prog.varsNamed 3) = true := by kernel_rfl
theorem linesLaid_k5 : (Rows.linesLaidRow.lifted == Tryz.pinned.checked.prog.liftsFinal) = true := by kernel_rfl
theorem linesLaid_k6 : (Tryz.pinned.checked.prog.make == some Rows.linesLaidRow.make) = true := by kernel_rfl
theorem linesLaid_facts : joinedFacts Tryz.pinned.checked.prog 3 Tryz.f3 Rows.linesLaidSpec Rows.linesLaidRow = true := by
 unfold joinedFacts
 rw [kc_laidOut, kc_mapsRowed, kc_heard, kc_enter, linesLaid_k1, linesLaid_k2, linesLaid_k3, linesLaid_k4, linesLaid_k5, linesLaid_k6]
 kernel_rfl
theorem linesLaid_named : Tryz.pinned.checked.prog.funcNamed Rows.linesLaidRow.func = some 3 := by kernel_rfl
theorem linesLaid_inst : Tryz.f3.isInstance Tryz.pinned.checked.prog Rows.linesLaidRow.origin Rows.linesLaidRow.targs := of_decide_eq_true (by kernel_rfl)
theorem linesLaid_wrap : Tryz.f3.isWrapper Tryz.pinned.checked.prog Rows.linesLaidRow.wrapper Rows.linesLaidRow.mainSum := by unfold Func.isWrapper; first | (rw [if_pos (by decide +kernel)]; kernel_rfl) | (rw [if_neg (by decide +kernel)]; exact ⟨rfl, rfl⟩)
theorem linesLaid_main : Tryz.pinned.checked.prog.mainIs = some (Rows.linesLaidCard.stood.harness.1, Rows.linesLaidCard.stood.harness.2.toList) := by kernel_rfl
theorem linesLaid_goes : false = Rows.linesLaidRow.goesBy Tryz.pinned.checked.prog := by kernel_rfl
theorem linesLaid_wf : Rows.linesLaidRow.wfByText (OpenSpec.ofChange Rows.linesLaidSpec) = true := by kernel_rfl
theorem linesLaid_row : Rows.LinesLaidSaid :=
 OpenClaim.holds_of_wide 3 Tryz.f3 rfl rfl rfl rfl rfl rfl rfl ⟨rfl, rfl, rfl, rfl, rfl⟩ rfl rfl rfl rfl rfl linesLaid_named Tryz.func3 linesLaid_facts linesLaid_inst linesLaid_wrap
  (fun os started H enc _ => linesLaid_lifted os started H enc)
theorem linesLaid_holds : Rows.LinesLaidCardSaid :=
 Claim7.holds_tied_plain_at .later [] [.data, .pinned] true Rows.linesLaidCard.stood.harness false linesLaid_row (fun _ h => by cases h) linesLaid_wf (fun _ h => by cases h) linesLaid_row_tie rfl ⟨rfl, rfl⟩ linesLaid_main rfl
  (fun f fn hf hfn => by
   obtain rfl : f = 3 := Option.some.inj (linesLaid_named.symm.trans hf) |>.symm
   obtain rfl : fn = Tryz.f3 := (Option.some.inj (Tryz.func3.symm.trans hfn)).symm
   exact ⟨kc_looks, fun j t ht => by
    rw [Tryz.params3] at ht
    have hm : t ∈ [22] := by simpa using Array.mem_of_getElem? ht
    have hall : ([22].all fun u => !Tryz.prog.wantsStandIn u) = true := by kernel_rfl
    exact (show Tryz.prog.wantsStandIn t = false by simpa using List.all_eq_true.1 hall t hm)⟩)
  linesLaid_goes
end Go.Proofs.YtfilfijammemfaaGreatDoor
