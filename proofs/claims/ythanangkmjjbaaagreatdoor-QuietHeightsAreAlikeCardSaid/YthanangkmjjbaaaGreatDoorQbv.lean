/- The statement QuietHeightsAreAlike, a tied card: for every input the law returns true, and the input reads as it did. Conditions: none. -/
import Derived.Test.YthanangkmjjbaaaGreatDoorQar
import Derived.Test.YthanangkmjjbaaaGreatDoorQbu
set_option linter.unusedSimpArgs false
set_option linter.unusedVariables false
/- The statement QuietHeightsAreAlike, a tied card: for every input the law returns true, and the input reads as it did. Conditions: none. -/
namespace Go.Proofs.YthanangkmjjbaaaGreatDoor
open Go Go.ChangeShapes Go.WideShapes Go.ChangeAt Go.RowKit
set_option maxRecDepth 100000
theorem quietHeightsAreAlike_contract (H : Type) (enc : TypeId × Value → H) (W : World) (base : Nat) (args : Array Value) (ds gs : List (DataW H)) (before : List MemPlace)
    (hval : ∀ (j : Nat) t v, Tryz.f6.params[j]? = some t → args[j]? = some v → Value.okWide Tryz.prog W .any base t v)
    (hW : DataW.Whole enc Tryz.prog Tryz.f6.params.toList Rows.quietHeightsAreAlikeSpec.vars false W args.toList ds gs before) :
    Calls Tryz.prog 6 args W fun e W' => ∃ v, e = .returned v ∧ Rows.quietHeightsAreAlikeSpec.post enc Tryz.prog Tryz.f6 false true false false W args v W' := by
  have hW' := hW
  obtain ⟨p, q, hA0, hV, rfl, hfz, hnd⟩ := hW
  have hA : DataW.TrodAll enc Tryz.prog W 0 (fun _ => true) true Tryz.f6.params.toList args.toList ds p := hA0
  rw [Tryz.params6] at hA hval
  obtain ⟨v0, d0, rfl, rfl, h0⟩ := trodAll_one hA
  obtain ⟨rfl, rfl⟩ := trodVars_none hV
  obtain ⟨A, len, cap, rfl⟩ := okWide_slice Tryz.underlying22 (hval 0 22 v0 rfl rfl)
  obtain ⟨fuel, hf⟩ := h0
  obtain ⟨zs, hs, hg⟩ := arg_ints hf
  refine (law_quiet (.slice A len cap) zs hs (fun b => b < W.heap.size) [] W (rh_none W) (fun x hx => by rw [List.mem_singleton.1 hx]; exact .c hg)).mono ?_
  rintro e W' ⟨u, H', ρ', S', rfl, rfl, -, -, hst, -⟩
  refine ⟨_, rfl, [d0], [], p ++ [], [], p, [], hW', trodAll_mk1 (shut_bool Tryz.underlying4 true), ?_, by exact rfl, kept_all hst, fun h => by cases h⟩
  refine trodAll_mk1 ⟨fuel, DataW.trod_stays Tryz.kids (fun {t e} => Tryz.full t e) (fun h => by cases h) (of_decide_eq_true (by kernel_rfl)) hf (fun q hq => same_all hst ?_) (fun q hq => ?_)⟩
  · exact hW'.lt q (by simpa using hq)
  · exact decide_eq_true (hW'.lt q (by simpa using hq))
theorem quietHeightsAreAlike_t0 : Tryz.checked.prog.inits.idxOf? 6 = none := by kernel_rfl
theorem quietHeightsAreAlike_t1 (os : Os) : Input.okWideB Tryz.checked.prog ((World.laidAll Tryz.prog os laidL).forCall (fun _ _ => 0) ⟨#[], #[.slice none 0 0], []⟩) 6 ⟨#[], #[.slice none 0 0], []⟩ = true := by kernel_rfl
theorem quietHeightsAreAlike_t2 (H : Type) (enc : TypeId × Value → H) (os : Os) : Rows.quietHeightsAreAlikeSpec.preB enc Tryz.checked.prog Tryz.f6 Rows.quietHeightsAreAlikeRow.domain false ((World.laidAll Tryz.prog os laidL).forCall (fun _ _ => 0) ⟨#[], #[.slice none 0 0], []⟩).memory #[.slice none 0 0] 8 = true := by kernel_rfl
theorem quietHeightsAreAlike_t3 (H : Type) (enc : TypeId × Value → H) (os : Os) : Rows.quietHeightsAreAlikeSpec.sizedB enc Tryz.checked.prog Tryz.f6 false ((World.laidAll Tryz.prog os laidL).forCall (fun _ _ => 0) ⟨#[], #[.slice none 0 0], []⟩).memory #[.slice none 0 0] 8 = true := by kernel_rfl
set_option maxRecDepth 100000 in
theorem quietHeightsAreAlike_lifted (os : Os) (started : os.Started) (H : Type) (enc : TypeId × Value → H) :
    ReturnsInHanded {} Tryz.checked os 6 .any (fun w args => (Rows.quietHeightsAreAlikeSpec.pre enc Tryz.prog Tryz.f6 Rows.quietHeightsAreAlikeRow.domain false w args ∧ laidMetH Tryz.prog laidL w) ∧ sizedMet enc Tryz.prog Tryz.f6 (OpenSpec.ofChange Rows.quietHeightsAreAlikeSpec) false w args)
      (Rows.quietHeightsAreAlikeSpec.post enc Tryz.prog Tryz.f6 false true false false) := by
  refine returnsInHanded_of_change_and (C := Tryz.checked) (X := fun w _ => laidMetH Tryz.prog laidL w) (fun _ _ _ hh h => h.of_heap hh) Tryz.own started quietHeightsAreAlike_t0 Tryz.func6
    (ChangeSpec.witness_shaped (enc := enc) (C := Tryz.checked) (os := os) (X := fun w _ => laidMetH Tryz.prog laidL w) false (World.laidAll Tryz.prog os laidL) #[.slice none 0 0] 8 (World.laidAll_os _ _ _)
      (laid_shaped os) (quietHeightsAreAlike_t1 os) (quietHeightsAreAlike_t2 H enc os) (quietHeightsAreAlike_t3 H enc os) (laid_met os)) ?_
  intro W base args ds gs before hval hW _ _ _ _
  exact quietHeightsAreAlike_contract H enc W base args ds gs before hval hW
theorem quietHeightsAreAlike_k1 : (Rows.quietHeightsAreAlikeRow.inPlace == Tryz.pinned.checked.prog.inPlace 6) = true := by kernel_rfl
theorem quietHeightsAreAlike_k2 : (Rows.quietHeightsAreAlikeRow.unfollowed == Tryz.pinned.checked.prog.unfollowed 6) = true := by kernel_rfl
theorem quietHeightsAreAlike_k3 : (Rows.quietHeightsAreAlikeRow.recurses == Tryz.pinned.checked.prog.recurses 6) = true := by kernel_rfl
theorem quietHeightsAreAlike_k4 : (Rows.quietHeightsAreAlikeRow.named == Tryz.pinned.checked.prog.varsNamed 6) = true := by kernel_rfl
theorem quietHeightsAreAlike_k5 : (Rows.quietHeightsAreAlikeRow.lifted == Tryz.pinned.checked.prog.liftsFinal) = true := by kernel_rfl
theorem quietHeightsAreAlike_k6 : (Tryz.pinned.checked.prog.make == some Rows.quietHeightsAreAlikeRow.make) = true := by kernel_rfl
theorem quietHeightsAreAlike_facts : joinedFacts Tryz.pinned.checked.prog 6 Tryz.f6 Rows.quietHeightsAreAlikeSpec Rows.quietHeightsAreAlikeRow = true := by
  unfold joinedFacts
  rw [kc_laidOut, kc_mapsRowed, kc_heard, kc_enter, quietHeightsAreAlike_k1, quietHeightsAreAlike_k2, quietHeightsAreAlike_k3, quietHeightsAreAlike_k4, quietHeightsAreAlike_k5, quietHeightsAreAlike_k6]
  kernel_rfl
theorem quietHeightsAreAlike_named : Tryz.pinned.checked.prog.funcNamed Rows.quietHeightsAreAlikeRow.func = some 6 := by kernel_rfl
theorem quietHeightsAreAlike_inst : Tryz.f6.isInstance Tryz.pinned.checked.prog Rows.quietHeightsAreAlikeRow.origin Rows.quietHeightsAreAlikeRow.targs := of_decide_eq_true (by kernel_rfl)
theorem quietHeightsAreAlike_wrap : Tryz.f6.isWrapper Tryz.pinned.checked.prog Rows.quietHeightsAreAlikeRow.wrapper Rows.quietHeightsAreAlikeRow.mainSum := by unfold Func.isWrapper; first | (rw [if_pos (by decide +kernel)]; kernel_rfl) | (rw [if_neg (by decide +kernel)]; exact ⟨rfl, rfl⟩)
theorem quietHeightsAreAlike_main : Tryz.pinned.checked.prog.mainIs = some (Rows.quietHeightsAreAlikeCard.stood.harness.1, Rows.quietHeightsAreAlikeCard.stood.harness.2.toList) := by kernel_rfl
theorem quietHeightsAreAlike_goes : false = Rows.quietHeightsAreAlikeRow.goesBy Tryz.pinned.checked.prog := by kernel_rfl
theorem quietHeightsAreAlike_wf : Rows.quietHeightsAreAlikeRow.wfByText (OpenSpec.ofChange Rows.quietHeightsAreAlikeSpec) = true := by kernel_rfl
theorem quietHeightsAreAlike_row : Rows.QuietHeightsAreAlikeSaid :=
  OpenClaim.holds_of_wide 6 Tryz.f6 rfl rfl rfl rfl rfl rfl rfl ⟨rfl, rfl, rfl, rfl, rfl⟩ rfl rfl rfl rfl rfl quietHeightsAreAlike_named Tryz.func6 quietHeightsAreAlike_facts quietHeightsAreAlike_inst quietHeightsAreAlike_wrap
    (fun os started H enc _ => quietHeightsAreAlike_lifted os started H enc)
theorem quietHeightsAreAlike_holds : Rows.QuietHeightsAreAlikeCardSaid :=
  Claim7.holds_tied_plain_at .later [] [.data, .pinned] true Rows.quietHeightsAreAlikeCard.stood.harness false quietHeightsAreAlike_row (fun _ h => by cases h) quietHeightsAreAlike_wf (fun _ h => by cases h) quietHeightsAreAlike_row_tie rfl ⟨rfl, rfl⟩ quietHeightsAreAlike_main rfl
    (fun f fn hf hfn => by
      obtain rfl : f = 6 := Option.some.inj (quietHeightsAreAlike_named.symm.trans hf) |>.symm
      obtain rfl : fn = Tryz.f6 := (Option.some.inj (Tryz.func6.symm.trans hfn)).symm
      exact ⟨kc_looks, fun j t ht => by
        rw [Tryz.params6] at ht
        have hm : t ∈ [22] := by simpa using Array.mem_of_getElem? ht
        have hall : ([22].all fun u => !Tryz.prog.wantsStandIn u) = true := by kernel_rfl
        exact (show Tryz.prog.wantsStandIn t = false by simpa using List.all_eq_true.1 hall t hm)⟩)
    quietHeightsAreAlike_goes
end Go.Proofs.YthanangkmjjbaaaGreatDoor
