/- JobsFollowed: Refused, Running, Jobs, Progress, Filament and Used are as the document says, for all notes, names and moments. Conditions: none but those of the given statement. -/
import Derived.Test.YtcdeonjdipcgpaaGreatDoorQar
import Derived.Test.YtcdeonjdipcgpaaGreatDoorQbx
set_option linter.unusedSimpArgs false
set_option linter.unusedVariables false
namespace Go.Proofs.YtcdeonjdipcgpaaGreatDoor
open Go Go.ChangeShapes Go.WideShapes Go.ChangeAt Go.RowKit
set_option maxRecDepth 100000
abbrev zD : List (String × DataW Unit) := Rows.jobsFollowedRow.laid
theorem zx3 (os : Os) : ((World.laidAll Tryz.prog os zD).forCall (fun _ _ => 0) ⟨#[], #[.slice none 0 0], []⟩).Shaped Tryz.prog := World.shaped_of_ZipB (by kernel_rfl) (by kernel_rfl)
theorem jobsFollowed_met (os : Os) : laidMetH Tryz.prog zD ((World.laidAll Tryz.prog os zD).forCall (fun _ _ => 0) ⟨#[], #[.slice none 0 0], []⟩).memory := by
 rw [MakeChecks.laidMetH_plain _ _ _ (by kernel_rfl)]; exact laidMet_laidAll _ (by kernel_rfl) (by kernel_rfl)
theorem zK3 : Rows.jobsFollowedCard.stood.looks = Tryz.pinned.checked.prog.looks [] := by kernel_rfl
theorem zb3 (H : Type) (enc : TypeId × Value → H) (W : World) (base : Nat) (args : Array Value) (ds gs : List (DataW H)) (before : List MemPlace)
    (hval : ∀ (j : Nat) t v, Tryz.f3.params[j]? = some t → args[j]? = some v → Value.okWide Tryz.prog W .any base t v)
    (hlaid : laidMetH Tryz.prog zD W) (hW : DataW.Whole enc Tryz.prog Tryz.f3.params.toList Rows.jobsFollowedSpec.vars false W args.toList ds gs before) :
    Calls Tryz.prog 3 args W fun e W' => ∃ v, e = .returned v ∧ Rows.jobsFollowedSpec.post enc Tryz.prog Tryz.f3 false true false false W args v W' := by
 have hW' := hW
 obtain ⟨p, q, hA0, hV, rfl, hfz, hnd⟩ := hW
 have hA : DataW.TrodAll enc Tryz.prog W 0 (fun _ => true) true Tryz.f3.params.toList args.toList ds p := hA0
 rw [Tryz.params3] at hA hval
 obtain ⟨v0, d0, rfl, rfl, h0⟩ := trodAll_one hA
 obtain ⟨rfl, rfl⟩ := trodVars_none hV
 obtain ⟨A, len, cap, rfl⟩ := okWide_slice Tryz.underlying22 (hval 0 22 v0 rfl rfl)
 obtain ⟨fuel, hf⟩ := h0
 obtain ⟨zs, hs, hg⟩ := arg_ints hf
 refine (law_jobs (.slice A len cap) zs hs (fun b => b < W.heap.size) [] W (jobsFollowed_tab hlaid) (rh_none W) (fun x hx => by rw [List.mem_singleton.1 hx]; exact .c hg)).mono ?_
 rintro e W' ⟨u, H', ρ', S', rfl, rfl, -, -, hst, -⟩
 refine ⟨_, rfl, [d0], [], p ++ [], [], p, [], hW', trodAll_mk1 (shut_bool Tryz.underlying4 true), ?_, by exact rfl, kept_all hst, fun h => by cases h⟩
 refine trodAll_mk1 ⟨fuel, DataW.trod_stays Tryz.kids (fun {t e} => Tryz.full t e) (fun h => by cases h) (of_decide_eq_true (by kernel_rfl)) hf (fun q hq => same_all hst ?_) (fun q hq => ?_)⟩
 ·exact hW'.lt q (by simpa using hq)
 ·exact decide_eq_true (hW'.lt q (by simpa using hq))
theorem jobsFollowed_t0 : Tryz.checked.prog.inits.idxOf? 3 = none := by kernel_rfl
theorem jobsFollowed_t1 (os : Os) : Input.okWideB Tryz.checked.prog ((World.laidAll Tryz.prog os zD).forCall (fun _ _ => 0) ⟨#[], #[.slice none 0 0], []⟩) 3 ⟨#[], #[.slice none 0 0], []⟩ = true := by kernel_rfl
theorem jobsFollowed_t2 (H : Type) (enc : TypeId × Value → H) (os : Os) : Rows.jobsFollowedSpec.preB enc Tryz.checked.prog Tryz.f3 Rows.jobsFollowedRow.domain false ((World.laidAll Tryz.prog os zD).forCall (fun _ _ => 0) ⟨#[], #[.slice none 0 0], []⟩).memory #[.slice none 0 0] 8 = true := by kernel_rfl
theorem jobsFollowed_t3 (H : Type) (enc : TypeId × Value → H) (os : Os) : Rows.jobsFollowedSpec.sizedB enc Tryz.checked.prog Tryz.f3 false ((World.laidAll Tryz.prog os zD).forCall (fun _ _ => 0) ⟨#[], #[.slice none 0 0], []⟩).memory #[.slice none 0 0] 8 = true := by kernel_rfl
set_option maxRecDepth 100000 in
theorem zy3 (os : Os) (started : os.Started) (H : Type) (enc : TypeId × Value → H) :
    ReturnsInHanded {} Tryz.checked os 3 .any (fun w args => (Rows.jobsFollowedSpec.pre enc Tryz.prog Tryz.f3 Rows.jobsFollowedRow.domain false w args ∧ laidMetH Tryz.prog zD w) ∧ sizedMet enc Tryz.prog Tryz.f3 (OpenSpec.ofChange Rows.jobsFollowedSpec) false w args)
     (Rows.jobsFollowedSpec.post enc Tryz.prog Tryz.f3 false true false false) := by
 refine returnsInHanded_of_change_and (C := Tryz.checked) (X := fun w _ => laidMetH Tryz.prog zD w) (fun _ _ _ hh h => h.of_heap hh) Tryz.own started jobsFollowed_t0 Tryz.func3
  (ChangeSpec.witness_shaped (enc := enc) (C := Tryz.checked) (os := os) (X := fun w _ => laidMetH Tryz.prog zD w) false (World.laidAll Tryz.prog os zD) #[.slice none 0 0] 8 (World.laidAll_os _ _ _)
   (zx3 os) (jobsFollowed_t1 os) (jobsFollowed_t2 H enc os) (jobsFollowed_t3 H enc os) (jobsFollowed_met os)) ?_
 intro W base args ds gs before hval hW h1 h2 h3 h4
 exact zb3 H enc W base args ds gs before hval (by first | exact h1 | exact h2 | exact h3 | exact h4) hW
theorem jobsFollowed_k1 : (Rows.jobsFollowedRow.inPlace == Tryz.pinned.checked.prog.inPlace 3) = true := by kernel_rfl
theorem jobsFollowed_k2 : (Rows.jobsFollowedRow.unfollowed == Tryz.pinned.checked.prog.unfollowed 3) = true := by kernel_rfl
theorem jobsFollowed_k3 : (Rows.jobsFollowedRow.recurses == Tryz.pinned.checked.prog.recurses 3) = true := by kernel_rfl
theorem jobsFollowed_k4 : (Rows.jobsFollowedRow.named == Tryz.pinned.checked.prog.varsNamed 3) = true := by kernel_rfl
theorem jobsFollowed_k5 : (Rows.jobsFollowedRow.lifted == Tryz.pinned.checked.prog.liftsFinal) = true := by kernel_rfl
theorem jobsFollowed_k6 : (Tryz.pinned.checked.prog.make == some Rows.jobsFollowedRow.make) = true := by kernel_rfl
theorem zL3 : joinedFacts Tryz.pinned.checked.prog 3 Tryz.f3 Rows.jobsFollowedSpec Rows.jobsFollowedRow = true := by
 unfold joinedFacts
 rw [kc_laidOut, kc_mapsRowed, kc_heard, kc_enter, jobsFollowed_k1, jobsFollowed_k2, jobsFollowed_k3, jobsFollowed_k4, jobsFollowed_k5, jobsFollowed_k6]
 kernel_rfl
theorem jobsFollowed_named : Tryz.pinned.checked.prog.funcNamed Rows.jobsFollowedRow.func = some 3 := by kernel_rfl
theorem zb4 : Tryz.f3.isInstance Tryz.pinned.checked.prog Rows.jobsFollowedRow.origin Rows.jobsFollowedRow.targs := of_decide_eq_true (by kernel_rfl)
theorem zZ3 : Tryz.f3.isWrapper Tryz.pinned.checked.prog Rows.jobsFollowedRow.wrapper Rows.jobsFollowedRow.mainSum := by unfold Func.isWrapper; first | (rw [if_pos (by decide +kernel)]; kernel_rfl) | (rw [if_neg (by decide +kernel)]; exact ⟨rfl, rfl⟩)
theorem za4 : Tryz.pinned.checked.prog.mainIs = some (Rows.jobsFollowedCard.stood.harness.1, Rows.jobsFollowedCard.stood.harness.2.toList) := by kernel_rfl
theorem zc4 : false = Rows.jobsFollowedRow.goesBy Tryz.pinned.checked.prog := by kernel_rfl
theorem jobsFollowed_wf : Rows.jobsFollowedRow.wfByText (OpenSpec.ofChange Rows.jobsFollowedSpec) = true := by kernel_rfl
theorem jobsFollowed_row : Rows.JobsFollowedSaid :=
 OpenClaim.holds_of_wide 3 Tryz.f3 rfl rfl rfl rfl rfl rfl rfl ⟨rfl, rfl, rfl, rfl, rfl⟩ rfl rfl rfl rfl rfl jobsFollowed_named Tryz.func3 zL3 zb4 zZ3
  (fun os started H enc _ => zy3 os started H enc)
theorem jobsFollowed_holds : Rows.JobsFollowedCardSaid :=
 Claim7.holds_tied_plain_at .later [] Rows.jobsFollowedCard.laidKinds true Rows.jobsFollowedCard.stood.harness Rows.jobsFollowedCard.stood.looks jobsFollowed_row (fun _ h => by cases h) jobsFollowed_wf (fun _ h => by cases h) jobsFollowed_row_tie rfl ⟨rfl, rfl⟩ za4 rfl
  (fun f fn hf hfn => by
   obtain rfl : f = 3 := Option.some.inj (jobsFollowed_named.symm.trans hf) |>.symm
   obtain rfl : fn = Tryz.f3 := (Option.some.inj (Tryz.func3.symm.trans hfn)).symm
   exact ⟨zK3, fun j t ht => by
    rw [Tryz.params3] at ht
    have hm : t ∈ [22] := by simpa using Array.mem_of_getElem? ht
    have hall : ([22].all fun u => !Tryz.prog.wantsStandIn u) = true := by kernel_rfl
    exact (show Tryz.prog.wantsStandIn t = false by simpa using List.all_eq_true.1 hall t hm)⟩)
  zc4
end Go.Proofs.YtcdeonjdipcgpaaGreatDoor
