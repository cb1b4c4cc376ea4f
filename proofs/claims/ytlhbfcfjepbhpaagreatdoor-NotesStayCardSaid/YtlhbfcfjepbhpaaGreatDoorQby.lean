/- The law NotesStay, walked. -/
import Derived.Test.YtlhbfcfjepbhpaaGreatDoorQbs
import Derived.Test.YtlhbfcfjepbhpaaGreatDoorQbg
import Derived.Test.YtlhbfcfjepbhpaaGreatDoorQbw
import Derived.Test.YtlhbfcfjepbhpaaGreatDoorQbj
import Derived.Test.YtlhbfcfjepbhpaaGreatDoorQbx
set_option linter.unusedSimpArgs false
set_option linter.unusedVariables false
-- NEWM
namespace Go.Proofs.YtlhbfcfjepbhpaaGreatDoor
open Go Go.RowKit
set_option maxRecDepth 1000000
set_option maxHeartbeats 1500000 in
theorem law_nstay (v : Value) (zs : List Int) (hs : StrOk zs) : ACalls Tryz.prog 4 [.c (.r v (zs.map fun z => [I z]))] [] fun u H => u = .c (B true) := by
 refine zg (N := 51) Tryz.func4 rfl rfl (by simp) fun E hE => ?_
 refine WA ?_
 refine WA ?_
 refine WR ?_
 refine zh rfl (zM1 [0] (fun _ => [strm v zs 0]) false (fun _ => zf4 12 (by omega) v zs 0 hs (by omega) (by omega)) rfl .fn rfl (by decide) (by kernel_rfl) rfl (fun _g => .cons (.p rfl) (.cons (.c rfl) .nil)) (by decide) ZCH (by simp) (.inl ⟨_, hE, rfl⟩)) ?_
 rintro F1 H1 ⟨_, _, _, _, ⟨la, cla, ala, hfla, ha1la, ha2la, hlla, hkla, hbla, hcla, rfl, rfl⟩, hF, hH⟩
 (refine NSU hF hH ?_; clear hF hH; rintro rfl rfl)
 refine WO ?_
 refine zh rfl (zM1 [1] (fun _ => [strm v zs 0]) false (fun _ => zf4 12 (by omega) v zs 0 hs (by omega) (by omega)) rfl .fn rfl (by decide) (by kernel_rfl) rfl (fun _g => .cons (.p rfl) (.cons (.c rfl) .nil)) (by decide) ZCH (by simp) (.inl ⟨_, hE, rfl⟩)) ?_
 rintro F1 H1 ⟨_, _, _, _, ⟨lb, clb, alb, hflb, ha1lb, ha2lb, hllb, hklb, hblb, hclb, rfl, rfl⟩, hF, hH⟩
 (refine NSU hF hH ?_; clear hF hH; rintro rfl rfl)
 refine WE ?_
 rw [hfla, Prod.mk.injEq] at hflb
 obtain ⟨rfl, -⟩ := hflb
 refine aw_wk (zl (K := fun F H => ∃ va vb, F = [(5, .c (.r va (noRs la))), (6, .c (.r vb (noRs la)))] ∧ H = []) [] (fun g => [(5, .c (.r (g (.o 2 0 la.length cla)) (noRs la))), (6, .c (.r (g (.o 3 0 la.length clb)) (noRs la)))]) (fun _ => []) (by decide) (ZNL hE) (fun _ => .cons rfl (.frz rfl rfl (by rw [List.drop_zero, List.take_of_length_le (by simp)]) (by simp) rfl) (.cons rfl (.frz rfl rfl (by rw [List.drop_zero, List.take_of_length_le (by simp)]) (by simp) rfl) .nil)) ZCH (fun _ => ⟨_, _, rfl, rfl⟩)) ?_
 rintro F H ⟨va, vb, rfl, rfl⟩
 have hAs : ∀ x ∈ la, NtS x := fun x hx => (hbla x hx).s
 have hno : ∀ x ∈ la, x.no ≤ 4000000000000 := fun x hx => by have := (hbla x hx).no; omega
 have hll : la.length ≤ 1000000 := by omega
 have eL : (noRs la).length = la.length := by simp
 clear hs
 refine ZZ ?_
 refine WR ?_
 refine zh rfl (zc false (fun _ => merge_v va (.slice none 0 0) la [] (by omega) (by simp) hAs (by simp)) rfl .fn rfl (by decide) (by kernel_rfl) rfl (fun _ => C0 rfl) (by simp)) ?_
 rintro _ _ ⟨_, _, _, ⟨em, rm, cm, he, h1, h2, hc, rfl, rfl⟩, hF, hH⟩
 (refine NST hF hH ?_; clear hF hH; rintro rfl rfl)
 refine WE ?_
 have hrm : rm.length ≤ 1000000 := by
  by_cases h0 : em = 0
  ·obtain ⟨out, g1, g2, _⟩ := h1 h0
   have := mrg_len [] la out g1
   have := g2.length_eq
   simp at *
   omega
  ·rw [h2 h0]; simp
 refine WR ?_
 refine zh rfl (zb1 [0] (fun _ => [.arr 39 10 cm (noRs rm)]) false (fun _ => spoilN_a rm cm (by omega)) rfl .fn rfl (by decide) (by kernel_rfl) rfl (fun _ => .cons (.o rfl rfl) .nil) (by decide) (fun _ => .arr rfl rfl .nil) (by simp)) ?_
 rintro F1 H1 ⟨_, _, _, _, ⟨sp, hsp, rfl, rfl⟩, hF, hH⟩
 rw [zS] at hF
 (refine NSU hF hH ?_; clear hF hH; rintro rfl rfl)
 refine WE ?_
 refine aw_wk (zl (K := fun F H => F = [(5, .c (.r va (noRs la))), (6, .c (.r vb (noRs la)))] ∧ H = []) [] (fun _ => [(5, .c (.r va (noRs la))), (6, .c (.r vb (noRs la)))]) (fun _ => []) (by decide) (ZNL hE) ZCF ZCH (fun _ => ⟨rfl, rfl⟩)) ?_
 rintro F H ⟨rfl, rfl⟩
 clear hrm h1 h2 he hc
 refine WR ?_
 refine zh rfl (zc false (fun _ => write_v va la ⟨[122, 122], 0, 10000, 3, [112], [], [], 0, [], 0⟩ hll hAs ⟨by simp, by simp, by simp, by simp, by simp⟩ hno (by simp)) rfl .fn rfl (by decide) (by kernel_rfl) rfl (fun _ => C0 rfl) (by simp)) ?_
 rintro _ _ ⟨_, _, _, ⟨rm, cm, hrm, hc, rfl, rfl⟩, hF, hH⟩
 generalize (if chkN la ≠ 0 then chkN la else wrE la ⟨[122, 122], 0, 10000, 3, [112], [], [], 0, [], 0⟩) = em at hrm hF
 (refine NST hF hH ?_; clear hF hH; rintro rfl rfl)
 refine WE ?_
 have hrm2 : rm.length ≤ 1000000 := by
  rw [hrm]
  split
  ·simp; omega
  ·simp
 refine WR ?_
 refine zh rfl (zb1 [0] (fun _ => [.arr 39 10 cm (noRs rm)]) false (fun _ => spoilN_a rm cm (by omega)) rfl .fn rfl (by decide) (by kernel_rfl) rfl (fun _ => .cons (.o rfl rfl) .nil) (by decide) (fun _ => .arr rfl rfl .nil) (by simp)) ?_
 rintro F1 H1 ⟨_, _, _, _, ⟨sp, hsp, rfl, rfl⟩, hF, hH⟩
 rw [zS] at hF
 (refine NSU hF hH ?_; clear hF hH; rintro rfl rfl)
 refine WE ?_
 refine aw_wk (zl (K := fun F H => F = [(5, .c (.r va (noRs la))), (6, .c (.r vb (noRs la)))] ∧ H = []) [] (fun _ => [(5, .c (.r va (noRs la))), (6, .c (.r vb (noRs la)))]) (fun _ => []) (by decide) (ZNL hE) ZCF ZCH (fun _ => ⟨rfl, rfl⟩)) ?_
 rintro F H ⟨rfl, rfl⟩
 clear hrm hrm2 hc
 refine WR ?_
 refine zh rfl (zc false (fun _ => jobsP_v sortedKeys_ok va la 100 hll hAs) rfl .fn rfl (by decide) (by kernel_rfl) rfl (fun _ => C0 rfl) (by simp)) ?_
 rintro _ _ ⟨_, _, _, ⟨rp, cp, -, hrpl, hcp, rfl, rfl⟩, hF, hH⟩
 (refine NST hF hH ?_; clear hF hH; rintro rfl rfl)
 refine WE ?_
 refine WR ?_
 refine zh rfl (zb1 [0] (fun _ => [.arr 51 2 cp (prRs rp)]) false (fun _ => spoilP_a rp cp (by omega)) rfl .fn rfl (by decide) (by kernel_rfl) rfl (fun _ => .cons (.o rfl rfl) .nil) (by decide) (fun _ => .arr rfl rfl .nil) (by simp)) ?_
 rintro F1 H1 ⟨_, _, _, _, ⟨sp, hsp, rfl, rfl⟩, hF, hH⟩
 rw [zS] at hF
 (refine NSU hF hH ?_; clear hF hH; rintro rfl rfl)
 refine WE ?_
 refine aw_wk (zl (K := fun F H => F = [(5, .c (.r va (noRs la))), (6, .c (.r vb (noRs la)))] ∧ H = []) [] (fun _ => [(5, .c (.r va (noRs la))), (6, .c (.r vb (noRs la)))]) (fun _ => []) (by decide) (ZNL hE) ZCF ZCH (fun _ => ⟨rfl, rfl⟩)) ?_
 rintro F H ⟨rfl, rfl⟩
 refine WR ?_
 refine zh rfl (zc false (fun _ => equalN_v va vb la la hll hll) rfl .fn rfl (by decide) (by kernel_rfl) rfl (fun _ => C0 rfl) (by simp)) ?_
 rintro _ _ ⟨_, _, _, ⟨rfl, rfl⟩, hF, hH⟩
 rw [decide_eq_true rfl] at hF
 (refine NST hF hH ?_; clear hF hH; rintro rfl rfl)
 refine WO ?_
 first | refine ZS ?_ | (refine G1 rfl ?_; refine zh rfl (zc false (fun _ => ready_a) rfl .fn rfl (by decide) (by kernel_rfl) rfl (fun _ => C0 rfl) (by simp)) ?_; rintro _ _ ⟨_, _, _, ⟨rfl, rfl⟩, hF, hH⟩; (refine NST hF hH ?_; clear hF hH; rintro rfl rfl)) | skip
 refine WE ?_
 exact zf [] _ rfl rfl rfl (by decide) (ZNK rfl) (fun _ => .nil) rfl
end Go.Proofs.YtlhbfcfjepbhpaaGreatDoor
