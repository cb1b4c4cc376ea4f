/- The statement RingsRounded: for every input the law returns true, and the input reads as it did. Conditions: none. -/
import Derived.Test.YtlblimbelfenaaaGreatRows
import Derived.Test.YtlblimbelfenaaaGreatQao
import Derived.Test.YtlblimbelfenaaaGreatQcb
set_option linter.unusedSimpArgs false
set_option linter.unusedVariables false
/- The statement RingsRounded: for every input the law returns true, and the input reads as it did. Conditions: none. -/
namespace Go.Proofs.YtlblimbelfenaaaGreat
open Go Go.ChangeShapes Go.WideShapes Go.ChangeAt Go.RowKit
set_option maxRecDepth 100000
theorem ringsRounded_contract (H : Type) (enc : TypeId × Value → H) (W : World) (base : Nat) (args : Array Value) (ds gs : List (DataW H)) (before : List MemPlace)
    (hval : ∀ (j : Nat) t v, Tryz.f3.params[j]? = some t → args[j]? = some v → Value.okWide Tryz.prog W .any base t v)
    (hW : DataW.Whole enc Tryz.prog Tryz.f3.params.toList Rows.ringsRoundedSpec.vars false W args.toList ds gs before) :
    Calls Tryz.prog 3 args W fun e W' => ∃ v, e = .returned v ∧ Rows.ringsRoundedSpec.post enc Tryz.prog Tryz.f3 false true false false W args v W' := by
 have hW' := hW
 obtain ⟨p, q, hA0, hV, rfl, hfz, hnd⟩ := hW
 have hA : DataW.TrodAll enc Tryz.prog W 0 (fun _ => true) true Tryz.f3.params.toList args.toList ds p := hA0
 rw [Tryz.params3] at hA hval
 obtain ⟨v0, d0, rfl, rfl, h0⟩ := trodAll_one hA
 obtain ⟨rfl, rfl⟩ := trodVars_none hV
 obtain ⟨A, len, cap, rfl⟩ := okWide_slice Tryz.underlying22 (hval 0 22 v0 rfl rfl)
 obtain ⟨fuel, hf⟩ := h0
 obtain ⟨zs, hs, hg⟩ := arg_ints hf
 refine (law_rings (.slice A len cap) zs hs (fun b => b < W.heap.size) [] W (rh_none W) (fun x hx => by rw [List.mem_singleton.1 hx]; exact .c hg)).mono ?_
 rintro e W' ⟨u, H', ρ', S', rfl, rfl, -, -, hst, -⟩
 refine ⟨_, rfl, [d0], [], p ++ [], [], p, [], hW', trodAll_mk1 (shut_bool Tryz.underlying4 true), ?_, by exact rfl, kept_all hst, fun h => by cases h⟩
 refine trodAll_mk1 ⟨fuel, DataW.trod_stays Tryz.kids (fun {t e} => Tryz.full t e) (fun h => by cases h) (of_decide_eq_true (by kernel_rfl)) hf (fun q hq => same_all hst ?_) (fun q hq => ?_)⟩
 ·exact hW'.lt q (by simpa using hq)
 ·exact decide_eq_true (hW'.lt q (by simpa using hq))
set_option maxRecDepth 100000 in
theorem ringsRounded_lifted (os : Os) (started : os.Started) (H : Type) (enc : TypeId × Value → H) :
    ReturnsInHanded {} Tryz.checked os 3 .any (Rows.ringsRoundedSpec.pre6 enc Tryz.prog Tryz.f3 Rows.ringsRoundedRow.domain false) (Rows.ringsRoundedSpec.post enc Tryz.prog Tryz.f3 false true false false) := by
 refine returnsInHanded_of_change (C := Tryz.checked) Tryz.own started (by kernel_rfl) Tryz.func3
  (ChangeSpec.witness6 (enc := enc) (C := Tryz.checked) false ⟨#[], #[.slice none 0 0], []⟩ 8 (by kernel_rfl) (by kernel_rfl) (by kernel_rfl) (by kernel_rfl)) ?_
 intro W base args ds gs before hval hW _ _
 exact ringsRounded_contract H enc W base args ds gs before hval hW
theorem ringsRounded_holds : Rows.RingsRoundedSaid :=
 OpenClaim.holds_of_wide 3 Tryz.f3 rfl rfl rfl rfl rfl rfl rfl ⟨rfl, rfl, rfl, rfl, rfl⟩ rfl rfl rfl rfl rfl (by kernel_rfl) Tryz.func3 (by kernel_rfl)
  (of_decide_eq_true (by kernel_rfl)) (by unfold Func.isWrapper; first | (rw [if_pos (by decide +kernel)]; kernel_rfl) | (rw [if_neg (by decide +kernel)]; exact ⟨rfl, rfl⟩))
  (fun os started H enc _ => ringsRounded_lifted os started H enc)
end Go.Proofs.YtlblimbelfenaaaGreat
