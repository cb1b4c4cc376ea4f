/- SpoolsGiveNoMore: no spool gives more than was on it whenever it was put in, and what is left is told for the printer that has it. Conditions: none but those of the given statement. -/
import Derived.Test.YtcdeonjdipcgpaaGreatDoorQar
import Derived.Test.YtcdeonjdipcgpaaGreatDoorQbz
set_option linter.unusedSimpArgs false
set_option linter.unusedVariables false
namespace Go.Proofs.YtcdeonjdipcgpaaGreatDoor
open Go Go.ChangeShapes Go.WideShapes Go.ChangeAt Go.RowKit
set_option maxRecDepth 100000
theorem zp3 {W : World} (h : laidMetH Tryz.prog Rows.spoolsGiveNoMoreRow.laid W) : TabX W := by
 rw [MakeChecks.laidMetH_plain _ _ _ (by kernel_rfl)] at h
 exact tab_of (laidMet.tail (laidMet.tail h))
abbrev zp : List (String × DataW Unit) := Rows.spoolsGiveNoMoreRow.laid
theorem zF2 (os : Os) : ((World.laidAll Tryz.prog os zp).forCall (fun _ _ => 0) ⟨#[], #[.slice none 0 0], []⟩).Shaped Tryz.prog := World.shaped_of_ZipB (by kernel_rfl) (by kernel_rfl)
theorem zr3 (os : Os) : laidMetH Tryz.prog zp ((World.laidAll Tryz.prog os zp).forCall (fun _ _ => 0) ⟨#[], #[.slice none 0 0], []⟩).memory := by
 rw [MakeChecks.laidMetH_plain _ _ _ (by kernel_rfl)]; exact laidMet_laidAll _ (by kernel_rfl) (by kernel_rfl)
theorem zN2 : Rows.spoolsGiveNoMoreCard.stood.looks = Tryz.pinned.checked.prog.looks [] := by kernel_rfl
theorem zs2 (H : Type) (enc : TypeId × Value → H) (W : World) (base : Nat) (args : Array Value) (ds gs : List (DataW H)) (before : List MemPlace)
    (hval : ∀ (j : Nat) t v, Tryz.f6.params[j]? = some t → args[j]? = some v → Value.okWide Tryz.prog W .any base t v)
    (hlaid : laidMetH Tryz.prog zp W) (hW : DataW.Whole enc Tryz.prog Tryz.f6.params.toList Rows.spoolsGiveNoMoreSpec.vars false W args.toList ds gs before) :
    Calls Tryz.prog 6 args W fun e W' => ∃ v, e = .returned v ∧ Rows.spoolsGiveNoMoreSpec.post enc Tryz.prog Tryz.f6 false true false false W args v W' := by
 have hW' := hW
 obtain ⟨p, q, hA0, hV, rfl, hfz, hnd⟩ := hW
 have hA : DataW.TrodAll enc Tryz.prog W 0 (fun _ => true) true Tryz.f6.params.toList args.toList ds p := hA0
 rw [Tryz.params6] at hA hval
 obtain ⟨v0, d0, rfl, rfl, h0⟩ := trodAll_one hA
 obtain ⟨rfl, rfl⟩ := trodVars_none hV
 obtain ⟨A, len, cap, rfl⟩ := okWide_slice Tryz.underlying22 (hval 0 22 v0 rfl rfl)
 obtain ⟨fuel, hf⟩ := h0
 obtain ⟨zs, hs, hg⟩ := arg_ints hf
 refine (law_spools (.slice A len cap) zs hs (fun b => b < W.heap.size) [] W (zp3 hlaid) (rh_none W) (fun x hx => by rw [List.mem_singleton.1 hx]; exact .c hg)).mono ?_
 rintro e W' ⟨u, H', ρ', S', rfl, rfl, -, -, hst, -⟩
 refine ⟨_, rfl, [d0], [], p ++ [], [], p, [], hW', trodAll_mk1 (shut_bool Tryz.underlying4 true), ?_, by exact rfl, kept_all hst, fun h => by cases h⟩
 refine trodAll_mk1 ⟨fuel, DataW.trod_stays Tryz.kids (fun {t e} => Tryz.full t e) (fun h => by cases h) (of_decide_eq_true (by kernel_rfl)) hf (fun q hq => same_all hst ?_) (fun q hq => ?_)⟩
 ·exact hW'.lt q (by simpa using hq)
 ·exact decide_eq_true (hW'.lt q (by simpa using hq))
theorem zF3 : Tryz.checked.prog.inits.idxOf? 6 = none := by kernel_rfl
theorem zE3 (os : Os) : Input.okWideB Tryz.checked.prog ((World.laidAll Tryz.prog os zp).forCall (fun _ _ => 0) ⟨#[], #[.slice none 0 0], []⟩) 6 ⟨#[], #[.slice none 0 0], []⟩ = true := by kernel_rfl
theorem zD3 (H : Type) (enc : TypeId × Value → H) (os : Os) : Rows.spoolsGiveNoMoreSpec.preB enc Tryz.checked.prog Tryz.f6 Rows.spoolsGiveNoMoreRow.domain false ((World.laidAll Tryz.prog os zp).forCall (fun _ _ => 0) ⟨#[], #[.slice none 0 0], []⟩).memory #[.slice none 0 0] 8 = true := by kernel_rfl
theorem zC3 (H : Type) (enc : TypeId × Value → H) (os : Os) : Rows.spoolsGiveNoMoreSpec.sizedB enc Tryz.checked.prog Tryz.f6 false ((World.laidAll Tryz.prog os zp).forCall (fun _ _ => 0) ⟨#[], #[.slice none 0 0], []⟩).memory #[.slice none 0 0] 8 = true := by kernel_rfl
set_option maxRecDepth 100000 in
theorem zG2 (os : Os) (started : os.Started) (H : Type) (enc : TypeId × Value → H) :
    ReturnsInHanded {} Tryz.checked os 6 .any (fun w args => (Rows.spoolsGiveNoMoreSpec.pre enc Tryz.prog Tryz.f6 Rows.spoolsGiveNoMoreRow.domain false w args ∧ laidMetH Tryz.prog zp w) ∧ sizedMet enc Tryz.prog Tryz.f6 (OpenSpec.ofChange Rows.spoolsGiveNoMoreSpec) false w args)
     (Rows.spoolsGiveNoMoreSpec.post enc Tryz.prog Tryz.f6 false true false false) := by
 refine returnsInHanded_of_change_and (C := Tryz.checked) (X := fun w _ => laidMetH Tryz.prog zp w) (fun _ _ _ hh h => h.of_heap hh) Tryz.own started zF3 Tryz.func6
  (ChangeSpec.witness_shaped (enc := enc) (C := Tryz.checked) (os := os) (X := fun w _ => laidMetH Tryz.prog zp w) false (World.laidAll Tryz.prog os zp) #[.slice none 0 0] 8 (World.laidAll_os _ _ _)
   (zF2 os) (zE3 os) (zD3 H enc os) (zC3 H enc os) (zr3 os)) ?_
 intro W base args ds gs before hval hW h1 h2 h3 h4
 exact zs2 H enc W base args ds gs before hval (by first | exact h1 | exact h2 | exact h3 | exact h4) hW
theorem zL3 : (Rows.spoolsGiveNoMoreRow.inPlace == Tryz.pinned.checked.prog.inPlace 6) = true := by kernel_rfl
theorem zK3 : (Rows.spoolsGiveNoMoreRow.unfollowed == Tryz.pinned.checked.prog.unfollowed 6) = true := by kernel_rfl
theorem zJ3 : (Rows.spoolsGiveNoMoreRow.recurses == Tryz.pinned.checked.prog.recurses 6) = true := by kernel_rfl
theorem zI3 : (Rows.spoolsGiveNoMoreRow.named == Tryz.pinned.checked.prog.varsNamed 6) = true := by kernel_rfl
theorem zH3 : (Rows.spoolsGiveNoMoreRow.lifted == Tryz.pinned.checked.prog.liftsFinal) = true := by kernel_rfl
theorem zG3 : (Tryz.pinned.checked.prog.make == some Rows.spoolsGiveNoMoreRow.make) = true := by kernel_rfl
theorem zO2 : joinedFacts Tryz.pinned.checked.prog 6 Tryz.f6 Rows.spoolsGiveNoMoreSpec Rows.spoolsGiveNoMoreRow = true := by
 unfold joinedFacts
 rw [kc_laidOut, kc_mapsRowed, kc_heard, kc_enter, zL3, zK3, zJ3, zI3, zH3, zG3]
 kernel_rfl
theorem spoolsGiveNoMore_named : Tryz.pinned.checked.prog.funcNamed Rows.spoolsGiveNoMoreRow.func = some 6 := by kernel_rfl
theorem zV2 : Tryz.f6.isInstance Tryz.pinned.checked.prog Rows.spoolsGiveNoMoreRow.origin Rows.spoolsGiveNoMoreRow.targs := of_decide_eq_true (by kernel_rfl)
theorem zT2 : Tryz.f6.isWrapper Tryz.pinned.checked.prog Rows.spoolsGiveNoMoreRow.wrapper Rows.spoolsGiveNoMoreRow.mainSum := by unfold Func.isWrapper; first | (rw [if_pos (by decide +kernel)]; kernel_rfl) | (rw [if_neg (by decide +kernel)]; exact ⟨rfl, rfl⟩)
theorem zU2 : Tryz.pinned.checked.prog.mainIs = some (Rows.spoolsGiveNoMoreCard.stood.harness.1, Rows.spoolsGiveNoMoreCard.stood.harness.2.toList) := by kernel_rfl
theorem zW2 : false = Rows.spoolsGiveNoMoreRow.goesBy Tryz.pinned.checked.prog := by kernel_rfl
theorem zB3 : Rows.spoolsGiveNoMoreRow.wfByText (OpenSpec.ofChange Rows.spoolsGiveNoMoreSpec) = true := by kernel_rfl
theorem zq3 : Rows.SpoolsGiveNoMoreSaid :=
 OpenClaim.holds_of_wide 6 Tryz.f6 rfl rfl rfl rfl rfl rfl rfl ⟨rfl, rfl, rfl, rfl, rfl⟩ rfl rfl rfl rfl rfl spoolsGiveNoMore_named Tryz.func6 zO2 zV2 zT2
  (fun os started H enc _ => zG2 os started H enc)
theorem spoolsGiveNoMore_holds : Rows.SpoolsGiveNoMoreCardSaid :=
 Claim7.holds_tied_plain_at .later [] Rows.spoolsGiveNoMoreCard.laidKinds true Rows.spoolsGiveNoMoreCard.stood.harness Rows.spoolsGiveNoMoreCard.stood.looks zq3 (fun _ h => by cases h) zB3 (fun _ h => by cases h) spoolsGiveNoMore_row_tie rfl ⟨rfl, rfl⟩ zU2 rfl
  (fun f fn hf hfn => by
   obtain rfl : f = 6 := Option.some.inj (spoolsGiveNoMore_named.symm.trans hf) |>.symm
   obtain rfl : fn = Tryz.f6 := (Option.some.inj (Tryz.func6.symm.trans hfn)).symm
   exact ⟨zN2, fun j t ht => by
    rw [Tryz.params6] at ht
    have hm : t ∈ [22] := by simpa using Array.mem_of_getElem? ht
    have hall : ([22].all fun u => !Tryz.prog.wantsStandIn u) = true := by kernel_rfl
    exact (show Tryz.prog.wantsStandIn t = false by simpa using List.all_eq_true.1 hall t hm)⟩)
  zW2
end Go.Proofs.YtcdeonjdipcgpaaGreatDoor
