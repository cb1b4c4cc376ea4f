/- The statement WallsAreShells, a tied card: for every input the law returns true, and the input reads as it did. Conditions: none. -/
import Derived.Test.YtniolldgidgffaaGreatDoorQat
import Derived.Test.YtniolldgidgffaaGreatDoorQbx
set_option linter.unusedSimpArgs false
set_option linter.unusedVariables false
/- The statement WallsAreShells, a tied card: for every input the law returns true, and the input reads as it did. Conditions: none. -/
namespace Go.Proofs.YtniolldgidgffaaGreatDoor
open Go Go.ChangeShapes Go.WideShapes Go.ChangeAt Go.RowKit
set_option maxRecDepth 100000
theorem wallsAreShells_contract (H : Type) (enc : TypeId × Value → H) (W : World) (base : Nat) (args : Array Value) (ds gs : List (DataW H)) (before : List MemPlace)
    (hval : ∀ (j : Nat) t v, Tryz.f6.params[j]? = some t → args[j]? = some v → Value.okWide Tryz.prog W .any base t v)
    (hW : DataW.Whole enc Tryz.prog Tryz.f6.params.toList Rows.wallsAreShellsSpec.vars false W args.toList ds gs before) :
    Calls Tryz.prog 6 args W fun e W' => ∃ v, e = .returned v ∧ Rows.wallsAreShellsSpec.post enc Tryz.prog Tryz.f6 false true false false W args v W' := by
 have hW' := hW
 obtain ⟨p, q, hA0, hV, rfl, hfz, hnd⟩ := hW
 have hA : DataW.TrodAll enc Tryz.prog W 0 (fun _ => true) true Tryz.f6.params.toList args.toList ds p := hA0
 rw [Tryz.params6] at hA hval
 obtain ⟨v0, d0, rfl, rfl, h0⟩ := trodAll_one hA
 obtain ⟨rfl, rfl⟩ := trodVars_none hV
 obtain ⟨A, len, cap, rfl⟩ := okWide_slice Tryz.underlying22 (hval 0 22 v0 rfl rfl)
 obtain ⟨fuel, hf⟩ := h0
 obtain ⟨zs, hs, hg⟩ := arg_ints hf
 refine (law_walls (.slice A len cap) zs hs (fun b => b < W.heap.size) [] W (rh_none W) (fun x hx => by rw [List.mem_singleton.1 hx]; exact .c hg)).mono ?_
 rintro e W' ⟨u, H', ρ', S', rfl, rfl, -, -, hst, -⟩
 refine ⟨_, rfl, [d0], [], p ++ [], [], p, [], hW', trodAll_mk1 (shut_bool Tryz.underlying4 true), ?_, by exact rfl, kept_all hst, fun h => by cases h⟩
 refine trodAll_mk1 ⟨fuel, DataW.trod_stays Tryz.kids (fun {t e} => Tryz.full t e) (fun h => by cases h) (of_decide_eq_true (by kernel_rfl)) hf (fun q hq => same_all hst ?_) (fun q hq => ?_)⟩
 ·exact hW'.lt q (by simpa using hq)
 ·exact decide_eq_true (hW'.lt q (by simpa using hq))
theorem wallsAreShells_t0 : Tryz.checked.prog.inits.idxOf? 6 = none := by kernel_rfl
theorem wallsAreShells_t1 (os : Os) : Input.okWideB Tryz.checked.prog ((World.laidAll Tryz.prog os laidL).forCall (fun _ _ => 0) ⟨#[], #[.slice none 0 0], []⟩) 6 ⟨#[], #[.slice none 0 0], []⟩ = true := by kernel_rfl
theorem wallsAreShells_t2 (H : Type) (enc : TypeId × Value → H) (os : Os) : Rows.wallsAreShellsSpec.preB enc Tryz.checked.prog Tryz.f6 Rows.wallsAreShellsRow.domain false ((World.laidAll Tryz.prog os laidL).forCall (fun _ _ => 0) ⟨#[], #[.slice none 0 0], []⟩).memory #[.slice none 0 0] 8 = true := by kernel_rfl
theorem wallsAreShells_t3 (H : Type) (enc : TypeId × Value → H) (os : Os) : Rows.wallsAreShellsSpec.sizedB enc Tryz.checked.prog Tryz.f6 false ((World.laidAll Tryz.prog os laidL).forCall (fun _ _ => 0) ⟨#[], #[.slice none 0 0], []⟩).memory #[.slice none 0 0] 8 = true := by kernel_rfl
set_option maxRecDepth 100000 in
theorem wallsAreShells_lifted (os : Os) (started : os.Started) (H : Type) (enc : TypeId × Value → H) :
    ReturnsInHanded {} Tryz.checked os 6 .any (fun w args => (Rows.wallsAreShellsSpec.pre enc Tryz.prog Tryz.f6 Rows.wallsAreShellsRow.domain false w args ∧ laidMetH Tryz.prog laidL w) ∧ sizedMet enc Tryz.prog Tryz.f6 (OpenSpec.ofChange Rows.wallsAreShellsSpec) false w args)
     (Rows.wallsAreShellsSpec.post enc Tryz.prog Tryz.f6 false true false false) := by
 refine returnsInHanded_of_change_and (C := Tryz.checked) (X := fun w _ => laidMetH Tryz.prog laidL w) (fun _ _ _ hh h => h.of_heap hh) Tryz.own started wallsAreShells_t0 Tryz.func6
  (ChangeSpec.witness_shaped (enc := enc) (C := Tryz.checked) (os := os) (X := fun w _ => laidMetH Tryz.prog laidL w) false (World.laidAll Tryz.prog os laidL) #[.slice none 0 0] 8 (World.laidAll_os _ _ _)
   (laid_shaped os) (wallsAreShells_t1 os) (wallsAreShells_t2 H enc os) (wallsAreShells_t3 H enc os) (laid_met os)) ?_
 intro W base args ds gs before hval hW _ _ _ _
 exact wallsAreShells_contract H enc W base args ds gs before hval hW
theorem wallsAreShells_k1 : (Rows.wallsAreShellsRow.inPlace == Tryz.pinned.checked.prog.inPlace 6) = true := by kernel_rfl
theorem wallsAreShells_k2 : (Rows.wallsAreShellsRow.unfollowed == Tryz.pinned.checked.prog.unfollowed 6) = true := by kernel_rfl
theorem wallsAreShells_k3 : (Rows.wallsAreShellsRow.recurses == Tryz.pinned.checked.prog.recurses 6) = true := by kernel_rfl
theorem wallsAreShells_k4 : (Rows.wallsAreShellsRow.named == Tryz.pinned.checked.prog.varsNamed 6) = true := by kernel_rfl
theorem wallsAreShells_k5 : (Rows.wallsAreShellsRow.lifted == Tryz.pinned.checked.prog.liftsFinal) = true := by kernel_rfl
theorem wallsAreShells_k6 : (Tryz.pinned.checked.prog.make == some Rows.wallsAreShellsRow.make) = true := by kernel_rfl
theorem wallsAreShells_facts : joinedFacts Tryz.pinned.checked.prog 6 Tryz.f6 Rows.wallsAreShellsSpec Rows.wallsAreShellsRow = true := by
 unfold joinedFacts
 rw [kc_laidOut, kc_mapsRowed, kc_heard, kc_enter, wallsAreShells_k1, wallsAreShells_k2, wallsAreShells_k3, wallsAreShells_k4, wallsAreShells_k5, wallsAreShells_k6]
 kernel_rfl
theorem wallsAreShells_named : Tryz.pinned.checked.prog.funcNamed Rows.wallsAreShellsRow.func = some 6 := by kernel_rfl
theorem wallsAreShells_inst : Tryz.f6.isInstance Tryz.pinned.checked.prog Rows.wallsAreShellsRow.origin Rows.wallsAreShellsRow.targs := of_decide_eq_true (by kernel_rfl)
theorem wallsAreShells_wrap : Tryz.f6.isWrapper Tryz.pinned.checked.prog Rows.wallsAreShellsRow.wrapper Rows.wallsAreShellsRow.mainSum := by unfold Func.isWrapper; first | (rw [if_pos (by decide +kernel)]; kernel_rfl) | (rw [if_neg (by decide +kernel)]; exact ⟨rfl, rfl⟩)
theorem wallsAreShells_main : Tryz.pinned.checked.prog.mainIs = some (Rows.wallsAreShellsCard.stood.harness.1, Rows.wallsAreShellsCard.stood.harness.2.toList) := by kernel_rfl
theorem wallsAreShells_goes : false = Rows.wallsAreShellsRow.goesBy Tryz.pinned.checked.prog := by kernel_rfl
theorem wallsAreShells_wf : Rows.wallsAreShellsRow.wfByText (OpenSpec.ofChange Rows.wallsAreShellsSpec) = true := by kernel_rfl
theorem wallsAreShells_row : Rows.WallsAreShellsSaid :=
 OpenClaim.holds_of_wide 6 Tryz.f6 rfl rfl rfl rfl rfl rfl rfl ⟨rfl, rfl, rfl, rfl, rfl⟩ rfl rfl rfl rfl rfl wallsAreShells_named Tryz.func6 wallsAreShells_facts wallsAreShells_inst wallsAreShells_wrap
  (fun os started H enc _ => wallsAreShells_lifted os started H enc)
theorem wallsAreShells_holds : Rows.WallsAreShellsCardSaid :=
 Claim7.holds_tied_plain_at .later [] [.data, .pinned] true Rows.wallsAreShellsCard.stood.harness false wallsAreShells_row (fun _ h => by cases h) wallsAreShells_wf (fun _ h => by cases h) wallsAreShells_row_tie rfl ⟨rfl, rfl⟩ wallsAreShells_main rfl
  (fun f fn hf hfn => by
   obtain rfl : f = 6 := Option.some.inj (wallsAreShells_named.symm.trans hf) |>.symm
   obtain rfl : fn = Tryz.f6 := (Option.some.inj (Tryz.func6.symm.trans hfn)).symm
   exact ⟨kc_looks, fun j t ht => by
    rw [Tryz.params6] at ht
    have hm : t ∈ [22] := by simpa using Array.mem_of_getElem? ht
    have hall : ([22].all fun u => !Tryz.prog.wantsStandIn u) = true := by kernel_rfl
    exact (show Tryz.prog.wantsStandIn t = false by simpa using List.all_eq_true.1 hall t hm)⟩)
  wallsAreShells_goes
end Go.Proofs.YtniolldgidgffaaGreatDoor
