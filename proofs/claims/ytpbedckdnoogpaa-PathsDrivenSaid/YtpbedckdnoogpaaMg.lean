/- Exact and its faults, of the program and of its document, by value. -/
import Derived.Test.YtpbedckdnoogpaaMf
set_option linter.unusedSimpArgs false
set_option linter.unusedVariables false
namespace Go.Proofs.Ytpbedckdnoogpaa
open Go Go.RowKit
set_option maxRecDepth 100000
def exactV (f t : Int) (x : Leg) (ch : Int) : Int := if oneF x ch ≠ 0 then oneF x ch else if 0 ≤ f ∧ f ≤ x.limit ∧ 0 ≤ t ∧ t ≤ x.limit then (if 2 * ch * x.long < max (f * f - t * t) (-(f * f - t * t)) then 16 else 0) else 1
theorem oneF_ok {x : Leg} {ch : Int} (h : oneF x ch = 0) : x.good ∧ 1 ≤ ch ∧ ch ≤ 10000000 := by
  unfold oneF at h
  split at h
  · omega
  · rename_i hb
    exact ⟨legBad_iff.1 (by simpa using hb), changeF_ok h⟩
theorem exact_a (f t : Int) (x : Leg) (ch : Int) : ACalls Try.prog 33 [.c (I f), .c (I t), .a (x.row.map .c), .c (I ch)] [] fun u H => u = .t [.a ((if exactV f t x ch = 0 then exactR f t x ch else [I 0, I 0]).map .c), .c (I (exactV f t x ch))] ∧ H = [] := by
  refine acalls_of (N := 52) Try.func33 rfl rfl (by simp) fun E hE => ?_
  refine WA ?_
  refine WR ?_
  refine al_ef rfl (ef_call0 false (fun _ => one_a x ch) rfl .fn rfl (by decide) (by kernel_rfl) rfl (fun _ => C0 rfl) (by simp)) ?_
  rintro _ _ ⟨_, _, _, ⟨rfl, rfl⟩, hF, hH⟩
  (try simp only [nsl, Nat.reduceAdd, Nat.reduceLT, Nat.reduceSub] at hF); (try simp only [nsl, Nat.reduceAdd, Nat.reduceLT, Nat.reduceSub] at hH); subst hF; subst hH
  refine WE ?_
  refine WA ?_
  refine aw_if rfl (fun hne => ?_) (fun heq => ?_)
  · have hv : exactV f t x ch = oneF x ch := by rw [exactV, if_pos hne]
    rw [hv]
    refine WA ?_
    exact aret_a2 [] _ rfl (KK (t := 66) rfl) rfl (Cells.box rfl) (by simp) (by (try simp only [nm, putL, Nat.reduceAdd, cellsOf, cvOf]) <;> rfl) rfl rfl (by decide) (ZNK rfl) (fun _ => C0 rfl) (fun _ => .nil) ⟨by rw [if_neg hne]; rfl, rfl⟩
  have h0 : oneF x ch = 0 := by omega
  obtain ⟨hx, hc⟩ := oneF_ok h0
  refine ZZ ?_
  refine WR ?_
  refine al_ef rfl (ef_call0 false (fun _ => outs_a _ _ _) rfl .fn rfl (by decide) (by kernel_rfl) rfl (fun _ => C0 rfl) (by simp)) ?_
  rintro _ _ ⟨_, _, _, ⟨bb, rfl, rfl, ⟨rfl, hb⟩ | ⟨rfl, hb⟩⟩, hF, hH⟩
  all_goals ((try simp only [nsl, Nat.reduceAdd, Nat.reduceLT, Nat.reduceSub] at hF); (try simp only [nsl, Nat.reduceAdd, Nat.reduceLT, Nat.reduceSub] at hH); subst hF; subst hH)
  all_goals (refine WO ?_)
  all_goals (first | refine ZS ?_ | (refine G1 rfl ?_; refine al_ef rfl (ef_call0 false (fun _ => outs_a _ _ _) rfl .fn rfl (by decide) (by kernel_rfl) rfl (fun _ => C0 rfl) (by simp)) ?_; rintro _ _ ⟨_, _, _, ⟨bb, rfl, rfl, ⟨rfl, hb⟩ | ⟨rfl, hb⟩⟩, hF, hH⟩; all_goals ((try simp only [nsl, Nat.reduceAdd, Nat.reduceLT, Nat.reduceSub] at hF); (try simp only [nsl, Nat.reduceAdd, Nat.reduceLT, Nat.reduceSub] at hH); subst hF; subst hH)) | skip)
  all_goals (refine WE ?_)
  all_goals first
    | (have hv : exactV f t x ch = 1 := by rw [exactV, if_neg (by omega), if_neg (by omega)]
       rw [hv]
       refine aw_cond_t rfl ?_
       refine WA ?_
       exact aret_a2 [] _ rfl (KK (t := 66) rfl) rfl (Cells.box rfl) (by simp) (by (try simp only [nm, putL, Nat.reduceAdd, cellsOf, cvOf]) <;> rfl) rfl rfl (by decide) (ZNK rfl) (fun _ => C0 rfl) (fun _ => .nil) ⟨by rw [if_neg (by decide)]; rfl, rfl⟩)
    | refine aw_cond_f rfl ?_
  have hl := hx.2.2.2
  have hin : 0 ≤ f ∧ f ≤ x.limit ∧ 0 ≤ t ∧ t ≤ x.limit := by omega
  have hd := dis_b hc hx
  have s1 := sq_b (a := f) (by omega) (by omega)
  have s2 := sq_b (a := t) (by omega) (by omega)
  refine ZZ ?_
  refine aw_regionT [(0, none), (1, none), (2, none), (3, none), (4, none), (5, none), (6, none), (8, none), (9, none), (10, none), (11, none), (12, none), (7, some [8, 9, 10, 11, 12]), (13, none)] hMixed (by kernel_rfl) ?_
  refine WP ?_
  refine at_ef rfl rfl (ef_call0 false (fun _ => abs1_a (f * f - t * t) (by omega)) rfl .fn rfl (by decide) (by kernel_rfl) rfl (fun _ => C0 rfl) (by simp)) ?_
  rintro _ _ ⟨_, _, _, ⟨rfl, rfl⟩, hF, hH⟩
  (try simp only [nsl, Nat.reduceAdd, Nat.reduceLT, Nat.reduceSub] at hF); (try simp only [nsl, Nat.reduceAdd, Nat.reduceLT, Nat.reduceSub] at hH); subst hF; subst hH
  refine ⟨ag_cons (by first | exact ag_rd rfl rfl rfl (rd_move rfl rfl) rfl) (ag_cons (by first | exact ag_rd rfl rfl rfl (Zmul) rfl) (ag_cons (by first | exact ag_rd rfl rfl rfl (ZX (KF (t := 64) (f := 0) rfl rfl)) rfl) (ag_cons (by first | exact ag_rd rfl rfl rfl (ZL (KK (t := 3) rfl)) rfl) (ag_cons (by first | exact ag_rd rfl rfl rfl (Zmul) rfl) (ag_none))))), ?_⟩
  refine WQ ?_
  refine aw_if rfl (fun hgt => ?_) (fun hle => ?_)
  · have hv : exactV f t x ch = 16 := by rw [exactV, if_neg (by omega), if_pos hin, if_pos hgt]
    rw [hv]
    refine WA ?_
    exact aret_a2 [] _ rfl (KK (t := 66) rfl) rfl (Cells.box rfl) (by simp) (by (try simp only [nm, putL, Nat.reduceAdd, cellsOf, cvOf]) <;> rfl) rfl rfl (by decide) (ZNK rfl) (fun _ => C0 rfl) (fun _ => .nil) ⟨by rw [if_neg (by decide)]; rfl, rfl⟩
  have hv : exactV f t x ch = 0 := by rw [exactV, if_neg (by omega), if_pos hin, if_neg hle]
  rw [hv]
  have h0 : 0 ≤ f ∧ f ≤ 100000 := by omega
  have h1 : 0 ≤ t ∧ t ≤ 100000 := by omega
  have hb := numF_b h0 h1 hx hc
  refine ZZ ?_
  refine WR ?_
  refine al_ef rfl (ef_call0 false (fun _ => taken_a f t x ch h0 h1 hx hc) rfl .fn rfl (by decide) (by kernel_rfl) rfl (fun _ => C0 rfl) (by simp)) ?_
  rintro _ _ ⟨_, _, _, ⟨rfl, rfl⟩, hF, hH⟩
  (try simp only [nsl, Nat.reduceAdd, Nat.reduceLT, Nat.reduceSub] at hF); (try simp only [nsl, Nat.reduceAdd, Nat.reduceLT, Nat.reduceSub] at hH); subst hF; subst hH
  refine WO ?_
  refine al_ef rfl (ef_call0 false (fun _ => low1_a (numF f t x ch) (denF f t x ch) hb.1 (by omega) hb.2.2.1 (by omega)) rfl .fn rfl (by decide) (by kernel_rfl) rfl (fun _ => C0 rfl) (by simp)) ?_
  rintro _ _ ⟨_, _, _, ⟨rfl, rfl⟩, hF, hH⟩
  (try simp only [nsl, Nat.reduceAdd, Nat.reduceLT, Nat.reduceSub] at hF); (try simp only [nsl, Nat.reduceAdd, Nat.reduceLT, Nat.reduceSub] at hH); subst hF; subst hH
  refine WE ?_
  exact aret_a2 [] _ rfl (KK (t := 66) rfl) rfl (Cells.box rfl) (by simp) (by (try simp only [nm, putL, Nat.reduceAdd, cellsOf, cvOf]) <;> rfl) rfl rfl (by decide) (ZNK rfl) (fun _ => C0 rfl) (fun _ => .nil) ⟨by rw [if_pos rfl]; rfl, rfl⟩
end Go.Proofs.Ytpbedckdnoogpaa
