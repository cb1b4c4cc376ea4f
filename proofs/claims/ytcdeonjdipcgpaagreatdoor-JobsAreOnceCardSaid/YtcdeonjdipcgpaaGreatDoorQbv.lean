/- JobsAreOnce: each job has one state, those that run are told for their printers, and the others are done or failed; layers are never more than the job has. Conditions: none but those of the given statement. -/
import Derived.Test.YtcdeonjdipcgpaaGreatDoorQar
import Derived.Test.YtcdeonjdipcgpaaGreatDoorQbu
set_option linter.unusedSimpArgs false
set_option linter.unusedVariables false
namespace Go.Proofs.YtcdeonjdipcgpaaGreatDoor
open Go Go.ChangeShapes Go.WideShapes Go.ChangeAt Go.RowKit
set_option maxRecDepth 100000
abbrev zD : List (String × DataW Unit) := Rows.jobsAreOnceRow.laid
theorem zJ3 (os : Os) : ((World.laidAll Tryz.prog os zD).forCall (fun _ _ => 0) ⟨#[], #[.slice none 0 0], []⟩).Shaped Tryz.prog := World.shaped_of_ZipB (by kernel_rfl) (by kernel_rfl)
theorem jobsAreOnce_met (os : Os) : laidMetH Tryz.prog zD ((World.laidAll Tryz.prog os zD).forCall (fun _ _ => 0) ⟨#[], #[.slice none 0 0], []⟩).memory := by
 rw [MakeChecks.laidMetH_plain _ _ _ (by kernel_rfl)]; exact laidMet_laidAll _ (by kernel_rfl) (by kernel_rfl)
theorem zW3 : Rows.jobsAreOnceCard.stood.looks = Tryz.pinned.checked.prog.looks [] := by kernel_rfl
theorem zh3 (H : Type) (enc : TypeId × Value → H) (W : World) (base : Nat) (args : Array Value) (ds gs : List (DataW H)) (before : List MemPlace)
    (hval : ∀ (j : Nat) t v, Tryz.f4.params[j]? = some t → args[j]? = some v → Value.okWide Tryz.prog W .any base t v)
    (hlaid : laidMetH Tryz.prog zD W) (hW : DataW.Whole enc Tryz.prog Tryz.f4.params.toList Rows.jobsAreOnceSpec.vars false W args.toList ds gs before) :
    Calls Tryz.prog 4 args W fun e W' => ∃ v, e = .returned v ∧ Rows.jobsAreOnceSpec.post enc Tryz.prog Tryz.f4 false true false false W args v W' := by
 have hW' := hW
 obtain ⟨p, q, hA0, hV, rfl, hfz, hnd⟩ := hW
 have hA : DataW.TrodAll enc Tryz.prog W 0 (fun _ => true) true Tryz.f4.params.toList args.toList ds p := hA0
 rw [Tryz.params4] at hA hval
 obtain ⟨v0, d0, rfl, rfl, h0⟩ := trodAll_one hA
 obtain ⟨rfl, rfl⟩ := trodVars_none hV
 obtain ⟨A, len, cap, rfl⟩ := okWide_slice Tryz.underlying22 (hval 0 22 v0 rfl rfl)
 obtain ⟨fuel, hf⟩ := h0
 obtain ⟨zs, hs, hg⟩ := arg_ints hf
 refine (law_once (.slice A len cap) zs hs (fun b => b < W.heap.size) [] W  (rh_none W) (fun x hx => by rw [List.mem_singleton.1 hx]; exact .c hg)).mono ?_
 rintro e W' ⟨u, H', ρ', S', rfl, rfl, -, -, hst, -⟩
 refine ⟨_, rfl, [d0], [], p ++ [], [], p, [], hW', trodAll_mk1 (shut_bool Tryz.underlying4 true), ?_, by exact rfl, kept_all hst, fun h => by cases h⟩
 refine trodAll_mk1 ⟨fuel, DataW.trod_stays Tryz.kids (fun {t e} => Tryz.full t e) (fun h => by cases h) (of_decide_eq_true (by kernel_rfl)) hf (fun q hq => same_all hst ?_) (fun q hq => ?_)⟩
 ·exact hW'.lt q (by simpa using hq)
 ·exact decide_eq_true (hW'.lt q (by simpa using hq))
theorem jobsAreOnce_t0 : Tryz.checked.prog.inits.idxOf? 4 = none := by kernel_rfl
theorem jobsAreOnce_t1 (os : Os) : Input.okWideB Tryz.checked.prog ((World.laidAll Tryz.prog os zD).forCall (fun _ _ => 0) ⟨#[], #[.slice none 0 0], []⟩) 4 ⟨#[], #[.slice none 0 0], []⟩ = true := by kernel_rfl
theorem jobsAreOnce_t2 (H : Type) (enc : TypeId × Value → H) (os : Os) : Rows.jobsAreOnceSpec.preB enc Tryz.checked.prog Tryz.f4 Rows.jobsAreOnceRow.domain false ((World.laidAll Tryz.prog os zD).forCall (fun _ _ => 0) ⟨#[], #[.slice none 0 0], []⟩).memory #[.slice none 0 0] 8 = true := by kernel_rfl
theorem jobsAreOnce_t3 (H : Type) (enc : TypeId × Value → H) (os : Os) : Rows.jobsAreOnceSpec.sizedB enc Tryz.checked.prog Tryz.f4 false ((World.laidAll Tryz.prog os zD).forCall (fun _ _ => 0) ⟨#[], #[.slice none 0 0], []⟩).memory #[.slice none 0 0] 8 = true := by kernel_rfl
set_option maxRecDepth 100000 in
theorem zK3 (os : Os) (started : os.Started) (H : Type) (enc : TypeId × Value → H) :
    ReturnsInHanded {} Tryz.checked os 4 .any (fun w args => (Rows.jobsAreOnceSpec.pre enc Tryz.prog Tryz.f4 Rows.jobsAreOnceRow.domain false w args ∧ laidMetH Tryz.prog zD w) ∧ sizedMet enc Tryz.prog Tryz.f4 (OpenSpec.ofChange Rows.jobsAreOnceSpec) false w args)
     (Rows.jobsAreOnceSpec.post enc Tryz.prog Tryz.f4 false true false false) := by
 refine returnsInHanded_of_change_and (C := Tryz.checked) (X := fun w _ => laidMetH Tryz.prog zD w) (fun _ _ _ hh h => h.of_heap hh) Tryz.own started jobsAreOnce_t0 Tryz.func4
  (ChangeSpec.witness_shaped (enc := enc) (C := Tryz.checked) (os := os) (X := fun w _ => laidMetH Tryz.prog zD w) false (World.laidAll Tryz.prog os zD) #[.slice none 0 0] 8 (World.laidAll_os _ _ _)
   (zJ3 os) (jobsAreOnce_t1 os) (jobsAreOnce_t2 H enc os) (jobsAreOnce_t3 H enc os) (jobsAreOnce_met os)) ?_
 intro W base args ds gs before hval hW h1 h2 h3 h4
 exact zh3 H enc W base args ds gs before hval (by first | exact h1 | exact h2 | exact h3 | exact h4) hW
theorem jobsAreOnce_k1 : (Rows.jobsAreOnceRow.inPlace == Tryz.pinned.checked.prog.inPlace 4) = true := by kernel_rfl
theorem jobsAreOnce_k2 : (Rows.jobsAreOnceRow.unfollowed == Tryz.pinned.checked.prog.unfollowed 4) = true := by kernel_rfl
theorem jobsAreOnce_k3 : (Rows.jobsAreOnceRow.recurses == Tryz.pinned.checked.prog.recurses 4) = true := by kernel_rfl
theorem jobsAreOnce_k4 : (Rows.jobsAreOnceRow.named == Tryz.pinned.checked.prog.varsNamed 4) = true := by kernel_rfl
theorem jobsAreOnce_k5 : (Rows.jobsAreOnceRow.lifted == Tryz.pinned.checked.prog.liftsFinal) = true := by kernel_rfl
theorem jobsAreOnce_k6 : (Tryz.pinned.checked.prog.make == some Rows.jobsAreOnceRow.make) = true := by kernel_rfl
theorem zX3 : joinedFacts Tryz.pinned.checked.prog 4 Tryz.f4 Rows.jobsAreOnceSpec Rows.jobsAreOnceRow = true := by
 unfold joinedFacts
 rw [kc_laidOut, kc_mapsRowed, kc_heard, kc_enter, jobsAreOnce_k1, jobsAreOnce_k2, jobsAreOnce_k3, jobsAreOnce_k4, jobsAreOnce_k5, jobsAreOnce_k6]
 kernel_rfl
theorem jobsAreOnce_named : Tryz.pinned.checked.prog.funcNamed Rows.jobsAreOnceRow.func = some 4 := by kernel_rfl
theorem zo4 : Tryz.f4.isInstance Tryz.pinned.checked.prog Rows.jobsAreOnceRow.origin Rows.jobsAreOnceRow.targs := of_decide_eq_true (by kernel_rfl)
theorem zm4 : Tryz.f4.isWrapper Tryz.pinned.checked.prog Rows.jobsAreOnceRow.wrapper Rows.jobsAreOnceRow.mainSum := by unfold Func.isWrapper; first | (rw [if_pos (by decide +kernel)]; kernel_rfl) | (rw [if_neg (by decide +kernel)]; exact ⟨rfl, rfl⟩)
theorem zn4 : Tryz.pinned.checked.prog.mainIs = some (Rows.jobsAreOnceCard.stood.harness.1, Rows.jobsAreOnceCard.stood.harness.2.toList) := by kernel_rfl
theorem zp4 : false = Rows.jobsAreOnceRow.goesBy Tryz.pinned.checked.prog := by kernel_rfl
theorem jobsAreOnce_wf : Rows.jobsAreOnceRow.wfByText (OpenSpec.ofChange Rows.jobsAreOnceSpec) = true := by kernel_rfl
theorem jobsAreOnce_row : Rows.JobsAreOnceSaid :=
 OpenClaim.holds_of_wide 4 Tryz.f4 rfl rfl rfl rfl rfl rfl rfl ⟨rfl, rfl, rfl, rfl, rfl⟩ rfl rfl rfl rfl rfl jobsAreOnce_named Tryz.func4 zX3 zo4 zm4
  (fun os started H enc _ => zK3 os started H enc)
theorem jobsAreOnce_holds : Rows.JobsAreOnceCardSaid :=
 Claim7.holds_tied_plain_at .later [] Rows.jobsAreOnceCard.laidKinds true Rows.jobsAreOnceCard.stood.harness Rows.jobsAreOnceCard.stood.looks jobsAreOnce_row (fun _ h => by cases h) jobsAreOnce_wf (fun _ h => by cases h) jobsAreOnce_row_tie rfl ⟨rfl, rfl⟩ zn4 rfl
  (fun f fn hf hfn => by
   obtain rfl : f = 4 := Option.some.inj (jobsAreOnce_named.symm.trans hf) |>.symm
   obtain rfl : fn = Tryz.f4 := (Option.some.inj (Tryz.func4.symm.trans hfn)).symm
   exact ⟨zW3, fun j t ht => by
    rw [Tryz.params4] at ht
    have hm : t ∈ [22] := by simpa using Array.mem_of_getElem? ht
    have hall : ([22].all fun u => !Tryz.prog.wantsStandIn u) = true := by kernel_rfl
    exact (show Tryz.prog.wantsStandIn t = false by simpa using List.all_eq_true.1 hall t hm)⟩)
  zp4
end Go.Proofs.YtcdeonjdipcgpaaGreatDoor
