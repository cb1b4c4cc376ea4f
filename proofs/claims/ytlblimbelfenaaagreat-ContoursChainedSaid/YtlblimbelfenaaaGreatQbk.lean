/- Bounded numbers and places of the stream, by value. -/
import Derived.Test.YtlblimbelfenaaaGreatQbd
import Derived.Test.YtlblimbelfenaaaGreatQat
set_option linter.unusedSimpArgs false
set_option linter.unusedVariables false
/- Planes of the stream, by value. -/
-- NEWM
namespace Go.Proofs.YtlblimbelfenaaaGreat
open Go Go.RowKit
set_option maxRecDepth 100000
theorem aplane_v (v : Value) (zs : List Int) (a : Int) (q w : Value) (V : List Vec3) (Fs : List Fac3) (hs : StrOk zs) (h0 : 0 ≤ a) (h1 : a ≤ 800000000) (hV : V.length ≤ 1000000) : ACalls Tryz.prog 9 [.p 0 0 0, mshA q w V Fs] [strm v zs a] fun u H => ∃ (r a' : Int), u = .c (I r) ∧ H = [strm v zs a'] ∧ a ≤ a' ∧ a' ≤ a + 10 := by
  have e1 : (V.map Vec3.row).length = V.length := by simp
  have e2 : (vR V).length = V.length := by simp
  refine acalls_of (N := 36) Tryz.func9 rfl rfl (by simp) fun E hE => ?_
  refine WA ?_
  refine WR ?_
  refine al_ef rfl (ef_callm true (fun _ => pick_a [0, 1, 2, 3, 5, -1, 10, 100] _ _ _ _ hs (by omega) (by omega) (by simp) (by simp)) rfl .fn rfl (by decide) (by kernel_rfl) rfl rfl (fun _g => .cons (.p rfl) (.cons (.frz rfl rfl rfl rfl rfl) .nil)) (fun _g => .cons (.c rfl) (.cons (.c rfl) .nil)) (fun _ _ _ _ ⟨_, hu, hH, _⟩ => by rw [hu, hH]; exact ⟨.c (.inl trivial), strm_flat (.inr ⟨0, _, rfl, by simp⟩)⟩)) ?_
  rintro F1 H1 ⟨_, _, _, _, ⟨rr, rfl, hq, hrm⟩, hF, hH⟩
  injection hq with hq1 hq2; subst hq1; subst hq2
  (try simp only [nsl, Nat.reduceAdd, Nat.reduceLT, Nat.reduceSub] at hF); (try simp only [nsl, Nat.reduceAdd, Nat.reduceLT, Nat.reduceSub] at hH); subst hF; subst hH
  have h64r : in64 rr := by simp only [List.mem_cons, List.not_mem_nil, or_false] at hrm; simp only [in64] at *; omega
  clear hrm
  refine WE ?_
  obtain ⟨r1, hr1'⟩ : ∃ o, o = rr := ⟨_, rfl⟩
  rw [← hr1']
  refine aw_wk (wk_of (K := fun F H => F = [(0, .p 0 0 0), (3, .p 1 0 0), (5, .c (I r1))] ∧ H = [strm v zs (a + 1), mBox q w V (fR Fs)]) [some 0, some 1] (fun _ => [(0, .p 0 0 0), (3, .p 1 0 0), (5, .c (I r1))]) (fun _ => [strm v zs (a + 1), mBox q w V (fR Fs)]) (by decide) (ZNL hE) ZCF ZCH (fun _ => ⟨rfl, rfl⟩)) ?_
  rintro F H ⟨rfl, rfl⟩
  refine aw_cut (fun F H => ∃ (a' : Int) (b : Bool), a ≤ a' ∧ a' ≤ a + 3 ∧ (b = true → 0 < V.length) ∧ F = [(0, .p 0 0 0), (3, .p 1 0 0), (5, .c (I r1)), (16, .c (B b))] ∧ H = [strm v zs a', mBox q w V (fR Fs)]) ?_ ?_ wk_aw
  · by_cases hV0 : 0 < V.length
    · refine WR ?_
      refine G1 rfl ?_
      refine al_ef rfl (ef_callm false (fun _ => flip_a 3 _ _ _ hs (by omega) (by omega) (by simp only [in64]; omega)) rfl .fn rfl (by decide) (by kernel_rfl) rfl rfl (fun _g => .cons (.p rfl) (.cons (.c rfl) .nil)) (fun _g => .cons (.c rfl) (.cons (.c rfl) .nil)) (by simp)) ?_
      rintro F1 H1 ⟨_, _, _, _, ⟨bb, rfl, hq⟩, hF, hH⟩
      injection hq with hq1 hq2; subst hq1; subst hq2
      (try simp only [nsl, Nat.reduceAdd, Nat.reduceLT, Nat.reduceSub] at hF); (try simp only [nsl, Nat.reduceAdd, Nat.reduceLT, Nat.reduceSub] at hH); subst hF; subst hH
      refine WE ?_
      refine wk_of [some 0, some 1] (fun _ => [(0, .p 0 0 0), (3, .p 1 0 0), (5, .c (I r1)), (16, .c (B bb))]) (fun _ => _) (by decide) (ZNL hE) ZCF ZCH (fun _ => ?_)
      exact ⟨_, _, by omega, by omega, fun _ => hV0, rfl, rfl⟩
    · refine WR ?_
      refine WE ?_
      refine wk_of [some 0, some 1] (fun _ => [(0, .p 0 0 0), (3, .p 1 0 0), (5, .c (I r1)), (16, .c (B false))]) (fun _ => _) (by decide) (ZNL hE) ZCF ZCH (fun _ => ?_)
      exact ⟨_, _, by omega, by omega, fun h => (by cases h), rfl, rfl⟩
  rintro F H ⟨a', b, ha1, ha2, hb, rfl, rfl⟩
  refine aw_cut (fun F H => ∃ (a' r : Int), a ≤ a' ∧ a' ≤ a + 6 ∧ F = [(0, .p 0 0 0), (5, .c (I r))] ∧ H = [strm v zs a']) ?_ ?_ wk_aw
  · refine aw_cond rfl (fun hbb => ?_) (fun hbb => ?_)
    · have hV0 := hb hbb
      refine ZZ ?_
      refine aw_regionM [[(0, none), (1, none), (2, none), (3, none), (4, none), (5, none), (10, none), (6, some [0, 1, 10]), (7, none), (8, none), (9, none), (11, some [0, 1, 2, 3, 4, 5, 10, 7, 8, 9]), (12, some [0, 1, 7, 8, 9]), (13, none), (14, none)], [(0, none), (1, none), (2, none), (3, none), (4, none), (5, none), (10, none), (11, some [0, 1, 2, 3, 4, 5, 10]), (6, some [0, 1, 10]), (7, none), (8, none), (9, none), (12, some [0, 1, 7, 8, 9]), (13, none), (14, none)]] hMixed (by kernel_rfl) ?_
      focus
        refine WM ?_
        refine am_two (by rfl) (by rfl) (by rfl) ?_ ?_
        rotate_left
        refine WM ?_
        refine am_ef (i := 6) (by rfl) (by rfl) rfl rfl (ef_callm false (fun _ => next_a ((V.map Vec3.row).length : Int) _ _ _ hs (by omega) (by omega) (by simp only [in64]; omega)) rfl .fn rfl (by decide) (by kernel_rfl) rfl rfl (fun _g => .cons (.p rfl) (.cons (.c rfl) .nil)) (fun _g => .cons (.c rfl) (.cons (.c rfl) .nil)) (by simp)) ?_
        rintro F1 H1 ⟨_, _, _, _, ⟨rr, rfl, hq, hr1, hr2⟩, hF, hH⟩
        injection hq with hq1 hq2; subst hq1; subst hq2
        (try simp only [nsl, Nat.reduceAdd, Nat.reduceLT, Nat.reduceSub] at hF); (try simp only [nsl, Nat.reduceAdd, Nat.reduceLT, Nat.reduceSub] at hH); subst hF; subst hH
        obtain ⟨i, rfl⟩ : ∃ i : Nat, rr = i := ⟨rr.toNat, by omega⟩
        have hi2 := hr2 (by omega)
        have ra := vrow (V := V) (i := i) (by omega)
        refine ⟨AGX, ?_⟩
        refine WM ?_
        refine am_ef (i := 12) (by rfl) (by rfl) rfl rfl (ef_callm true (fun _ => pick_a [0, 0, 1, -1] _ _ _ _ hs (by omega) (by omega) (by simp) (by simp)) rfl .fn rfl (by decide) (by kernel_rfl) rfl rfl (fun _g => .cons (.p rfl) (.cons (.frz rfl rfl rfl rfl rfl) .nil)) (fun _g => .cons (.c rfl) (.cons (.c rfl) .nil)) (fun _ _ _ _ ⟨_, hu, hH, _⟩ => by rw [hu, hH]; exact ⟨.c (.inl trivial), strm_flat (.inr ⟨0, _, rfl, by simp⟩)⟩)) ?_
        rintro F1 H1 ⟨_, _, _, _, ⟨rr, rfl, hq, hrm⟩, hF, hH⟩
        injection hq with hq1 hq2; subst hq1; subst hq2
        (try simp only [nsl, Nat.reduceAdd, Nat.reduceLT, Nat.reduceSub] at hF); (try simp only [nsl, Nat.reduceAdd, Nat.reduceLT, Nat.reduceSub] at hH); subst hF; subst hH
        have h64r : in64 rr := by simp only [List.mem_cons, List.not_mem_nil, or_false] at hrm; simp only [in64] at *; omega
        clear hrm
        refine ⟨AGX, ?_⟩
        refine WN ?_
        rotate_right
        refine am_ef (i := 6) (by rfl) (by rfl) rfl rfl (ef_callm false (fun _ => next_a ((V.map Vec3.row).length : Int) _ _ _ hs (by omega) (by omega) (by simp only [in64]; omega)) rfl .fn rfl (by decide) (by kernel_rfl) rfl rfl (fun _g => .cons (.p rfl) (.cons (.c rfl) .nil)) (fun _g => .cons (.c rfl) (.cons (.c rfl) .nil)) (by simp)) ?_
        rintro F1 H1 ⟨_, _, _, _, ⟨rr, rfl, hq, hr1, hr2⟩, hF, hH⟩
        injection hq with hq1 hq2; subst hq1; subst hq2
        (try simp only [nsl, Nat.reduceAdd, Nat.reduceLT, Nat.reduceSub] at hF); (try simp only [nsl, Nat.reduceAdd, Nat.reduceLT, Nat.reduceSub] at hH); subst hF; subst hH
        obtain ⟨i, rfl⟩ : ∃ i : Nat, rr = i := ⟨rr.toNat, by omega⟩
        have hi2 := hr2 (by omega)
        have ra := vrow (V := V) (i := i) (by omega)
        refine ⟨AGX, ?_⟩
        refine WM ?_
        refine am_ef (i := 12) (by rfl) (by rfl) rfl rfl (ef_callm true (fun _ => pick_a [0, 0, 1, -1] _ _ _ _ hs (by omega) (by omega) (by simp) (by simp)) rfl .fn rfl (by decide) (by kernel_rfl) rfl rfl (fun _g => .cons (.p rfl) (.cons (.frz rfl rfl rfl rfl rfl) .nil)) (fun _g => .cons (.c rfl) (.cons (.c rfl) .nil)) (fun _ _ _ _ ⟨_, hu, hH, _⟩ => by rw [hu, hH]; exact ⟨.c (.inl trivial), strm_flat (.inr ⟨0, _, rfl, by simp⟩)⟩)) ?_
        rintro F1 H1 ⟨_, _, _, _, ⟨rr, rfl, hq, hrm⟩, hF, hH⟩
        injection hq with hq1 hq2; subst hq1; subst hq2
        (try simp only [nsl, Nat.reduceAdd, Nat.reduceLT, Nat.reduceSub] at hF); (try simp only [nsl, Nat.reduceAdd, Nat.reduceLT, Nat.reduceSub] at hH); subst hF; subst hH
        have h64r : in64 rr := by simp only [List.mem_cons, List.not_mem_nil, or_false] at hrm; simp only [in64] at *; omega
        clear hrm
        refine ⟨AGX, ?_⟩
        refine WN ?_
      all_goals (exact wk_of [some 0] (fun _ => [(0, .p 0 0 0), (5, .c (I (wrap64 ((vx V i).z + rr))))]) (fun _ => [strm v zs (a' + 1 + 1)]) (by decide) (ZNL hE) ZCF ZCH (fun _ => ⟨_, _, by omega, by omega, rfl, rfl⟩))
    · refine ZZ ?_
      refine wk_of [some 0] (fun _ => [(0, .p 0 0 0), (5, .c (I r1))]) (fun _ => _) (by decide) (ZNL hE) ZCF ZCH (fun _ => ?_)
      exact ⟨_, _, by omega, by omega, rfl, rfl⟩
  rintro F H ⟨a2, r2, ha3, ha4, rfl, rfl⟩
  refine WR ?_
  refine al_ef rfl (ef_callm false (fun _ => flip_a 25 _ _ _ hs (by omega) (by omega) (by simp only [in64]; omega)) rfl .fn rfl (by decide) (by kernel_rfl) rfl rfl (fun _g => .cons (.p rfl) (.cons (.c rfl) .nil)) (fun _g => .cons (.c rfl) (.cons (.c rfl) .nil)) (by simp)) ?_
  rintro F1 H1 ⟨_, _, _, _, ⟨bb, rfl, hq⟩, hF, hH⟩
  injection hq with hq1 hq2; subst hq1; subst hq2
  (try simp only [nsl, Nat.reduceAdd, Nat.reduceLT, Nat.reduceSub] at hF); (try simp only [nsl, Nat.reduceAdd, Nat.reduceLT, Nat.reduceSub] at hH); subst hF; subst hH
  refine WE ?_
  refine aw_cond rfl (fun _ => ?_) (fun _ => ?_)
  · refine WR ?_
    refine al_ef rfl (ef_callm false (fun _ => odd_a (-100000) 100000 _ _ _ hs (by omega) (by omega) (by omega) (by omega) (by omega) (by omega)) rfl .fn rfl (by decide) (by kernel_rfl) rfl rfl (fun _g => .cons (.p rfl) (.cons (.c rfl) (.cons (.c rfl) .nil))) (fun _g => .cons (.c rfl) (.cons (.c rfl) .nil)) (by simp)) ?_
    rintro F1 H1 ⟨_, _, _, _, ⟨rr, ar, rfl, hq, hr3, hr4, h64r⟩, hF, hH⟩
    injection hq with hq1 hq2; subst hq1; subst hq2
    (try simp only [nsl, Nat.reduceAdd, Nat.reduceLT, Nat.reduceSub] at hF); (try simp only [nsl, Nat.reduceAdd, Nat.reduceLT, Nat.reduceSub] at hH); subst hF; subst hH
    refine WE ?_
    refine WA ?_
    exact aret_1 [some 0] _ rfl rfl rfl (by decide) (ZNK rfl) ZCH ⟨_, _, rfl, rfl, by omega, by omega⟩
  · refine ZZ ?_
    refine WA ?_
    exact aret_1 [some 0] _ rfl rfl rfl (by decide) (ZNK rfl) ZCH ⟨_, _, rfl, rfl, by omega, by omega⟩
end Go.Proofs.YtlblimbelfenaaaGreat

/- Bounded numbers and places of the stream, by value. -/
-- NEWM
namespace Go.Proofs.YtlblimbelfenaaaGreat
open Go Go.RowKit
set_option maxRecDepth 100000
theorem oddb_v (lo hi : Int) (v : Value) (zs : List Int) (a : Int) (hs : StrOk zs) (h0 : 0 ≤ a) (h1 : a ≤ 900000000) (h2 : -1000000 ≤ lo) (h3 : lo ≤ 1000000) (h4 : -1000000 ≤ hi) (h5 : hi ≤ 1000000) (h6 : lo ≤ hi) :
    ACalls Tryz.prog 54 [.p 0 0 0, .c (I lo), .c (I hi)] [strm v zs a] fun u H => ∃ r a', u = .c (I r) ∧ H = [strm v zs a'] ∧ a ≤ a' ∧ a' ≤ a + 2 ∧ -2000000000000 ≤ r ∧ r ≤ 2000000000000 := by
  refine acalls_of (N := 22) Tryz.func54 rfl rfl (by simp) fun E hE => ?_
  repeat' (first
    | (with_reducible refine aw_seq ?_) | (with_reducible refine aseq_n ?_) | (with_reducible refine aseq_r ?_) | (with_reducible refine ablk_n ?_) | (with_reducible refine ablk_r ?_) | (with_reducible refine ablk_e ?_) | (with_reducible refine ablk_o rfl ?_) | (with_reducible refine aseq_e ?_) | (with_reducible refine aw_skip ?_) | (with_reducible refine aw_block ?_) | (with_reducible refine aw_ret ?_) | (with_reducible refine aw_exit ?_)
    | refine aw_cond_t rfl ?_ | refine aw_cond_f rfl ?_ | refine aw_if_t rfl (by assumption) ?_ | refine aw_if_f rfl (by assumption) ?_ | refine aw_if rfl (fun _ => ?_) (fun _ => ?_) | refine aw_cond rfl (fun _ => ?_) (fun _ => ?_)
    | (refine aw_region (id := 1) ?_
       refine WO ?_
       refine al_ef rfl (ef_callm false (fun _ => flip_a 12 _ _ _ hs (by omega) (by omega) (by simp only [in64]; omega)) rfl .fn rfl (by decide) (by kernel_rfl) rfl rfl (fun _g => .cons (.p rfl) (.cons (.c rfl) .nil)) (fun _g => .cons (.c rfl) (.cons (.c rfl) .nil)) (by simp)) ?_
       rintro F1 H1 ⟨_, _, _, _, ⟨bb, rfl, hq⟩, hF, hH⟩
       injection hq with hq1 hq2; subst hq1; subst hq2
       (try simp only [nsl, Nat.reduceAdd, Nat.reduceLT, Nat.reduceSub] at hF); (try simp only [nsl, Nat.reduceAdd, Nat.reduceLT, Nat.reduceSub] at hH); subst hF; subst hH
       refine WE ?_)
    | (refine aw_region (id := 2) ?_
       refine WO ?_
       refine al_ef rfl (ef_callm true (fun _ => pick_a [lo - 1, hi + 1, lo, hi, -1099511627776, 1099511627776] _ _ _ _ hs (by omega) (by omega) (by simp) (by simp)) rfl .fn rfl (by decide) (by kernel_rfl) rfl rfl (fun _g => .cons (.p rfl) (.cons (.frz rfl rfl rfl rfl rfl) .nil)) (fun _g => .cons (.c rfl) (.cons (.c rfl) .nil)) (fun _ _ _ _ ⟨_, hu, hH, _⟩ => by rw [hu, hH]; exact ⟨.c (.inl trivial), strm_flat (.inr ⟨0, _, rfl, by simp⟩)⟩)) ?_
       rintro F1 H1 ⟨_, _, _, _, ⟨rr, rfl, hq, hrm⟩, hF, hH⟩
       injection hq with hq1 hq2; subst hq1; subst hq2
       (try simp only [nsl, Nat.reduceAdd, Nat.reduceLT, Nat.reduceSub] at hF); (try simp only [nsl, Nat.reduceAdd, Nat.reduceLT, Nat.reduceSub] at hH); subst hF; subst hH
       have h64r : -2000000000000 ≤ rr ∧ rr ≤ 2000000000000 := by simp only [List.mem_cons, List.not_mem_nil, or_false] at hrm; omega
       clear hrm
       refine WE ?_)
    | (refine aw_region (id := 3) ?_
       refine WO ?_
       refine al_ef rfl (ef_callm false (fun _ => range_a lo hi _ _ _ hs (by omega) (by omega) (by omega) (by omega) (by omega) (by omega)) rfl .fn rfl (by decide) (by kernel_rfl) rfl rfl (fun _g => .cons (.p rfl) (.cons (.c rfl) (.cons (.c rfl) .nil))) (fun _g => .cons (.c rfl) (.cons (.c rfl) .nil)) (by simp)) ?_
       rintro F1 H1 ⟨_, _, _, _, ⟨rr, ar, rfl, hq, hr3, hr4, hr1, hr2, _⟩, hF, hH⟩
       injection hq with hq1 hq2; subst hq1; subst hq2
       (try simp only [nsl, Nat.reduceAdd, Nat.reduceLT, Nat.reduceSub] at hF); (try simp only [nsl, Nat.reduceAdd, Nat.reduceLT, Nat.reduceSub] at hH); subst hF; subst hH
       have h64r : in64 rr := by simp only [in64]; omega
       refine WE ?_)
    | (refine aw_region ?_; refine WE ?_))
  all_goals (refine aret_1 [some 0] _ rfl rfl rfl (by decide) (ZNK rfl) ZCH ?_)
  all_goals exact ⟨_, _, rfl, rfl, by omega, by omega, by omega, by omega⟩
theorem avecb_v (v : Value) (zs : List Int) (a : Int) (hs : StrOk zs) (h0 : 0 ≤ a) (h1 : a ≤ 800000000) : ACalls Tryz.prog 47 [.p 0 0 0] [strm v zs a] fun u H => ∃ (p : Vec3) (a' : Int), u = .a (p.row.map .c) ∧ H = [strm v zs a'] ∧ a ≤ a' ∧ a' ≤ a + 10 ∧ (-2000000000000 ≤ p.x ∧ p.x ≤ 2000000000000) ∧ (-2000000000000 ≤ p.y ∧ p.y ≤ 2000000000000) ∧ (-2000000000000 ≤ p.z ∧ p.z ≤ 2000000000000) := by
  refine acalls_of (N := 20) Tryz.func47 rfl rfl (by simp) fun E hE => ?_
  refine WA ?_
  refine WR ?_
  refine al_ef rfl (ef_callm true (fun _ => pick_a [0, 1, 3, -5, 100] _ _ _ _ hs (by omega) (by omega) (by simp) (by simp)) rfl .fn rfl (by decide) (by kernel_rfl) rfl rfl (fun _g => .cons (.p rfl) (.cons (.frz rfl rfl rfl rfl rfl) .nil)) (fun _g => .cons (.c rfl) (.cons (.c rfl) .nil)) (fun _ _ _ _ ⟨_, hu, hH, _⟩ => by rw [hu, hH]; exact ⟨.c (.inl trivial), strm_flat (.inr ⟨0, _, rfl, by simp⟩)⟩)) ?_
  rintro F1 H1 ⟨_, _, _, _, ⟨rr, rfl, hq, hrm⟩, hF, hH⟩
  injection hq with hq1 hq2; subst hq1; subst hq2
  (try simp only [nsl, Nat.reduceAdd, Nat.reduceLT, Nat.reduceSub] at hF); (try simp only [nsl, Nat.reduceAdd, Nat.reduceLT, Nat.reduceSub] at hH); subst hF; subst hH
  have h64r : -2000000000000 ≤ rr ∧ rr ≤ 2000000000000 := by simp only [List.mem_cons, List.not_mem_nil, or_false] at hrm; omega
  clear hrm
  refine WO ?_
  refine al_ef rfl (ef_callm true (fun _ => pick_a [0, 2, -7, 50] _ _ _ _ hs (by omega) (by omega) (by simp) (by simp)) rfl .fn rfl (by decide) (by kernel_rfl) rfl rfl (fun _g => .cons (.p rfl) (.cons (.frz rfl rfl rfl rfl rfl) .nil)) (fun _g => .cons (.c rfl) (.cons (.c rfl) .nil)) (fun _ _ _ _ ⟨_, hu, hH, _⟩ => by rw [hu, hH]; exact ⟨.c (.inl trivial), strm_flat (.inr ⟨0, _, rfl, by simp⟩)⟩)) ?_
  rintro F1 H1 ⟨_, _, _, _, ⟨rr, rfl, hq, hrm⟩, hF, hH⟩
  injection hq with hq1 hq2; subst hq1; subst hq2
  (try simp only [nsl, Nat.reduceAdd, Nat.reduceLT, Nat.reduceSub] at hF); (try simp only [nsl, Nat.reduceAdd, Nat.reduceLT, Nat.reduceSub] at hH); subst hF; subst hH
  have h64r : -2000000000000 ≤ rr ∧ rr ≤ 2000000000000 := by simp only [List.mem_cons, List.not_mem_nil, or_false] at hrm; omega
  clear hrm
  refine WO ?_
  refine al_ef rfl (ef_callm true (fun _ => pick_a [0, 0, 4, -2, 20] _ _ _ _ hs (by omega) (by omega) (by simp) (by simp)) rfl .fn rfl (by decide) (by kernel_rfl) rfl rfl (fun _g => .cons (.p rfl) (.cons (.frz rfl rfl rfl rfl rfl) .nil)) (fun _g => .cons (.c rfl) (.cons (.c rfl) .nil)) (fun _ _ _ _ ⟨_, hu, hH, _⟩ => by rw [hu, hH]; exact ⟨.c (.inl trivial), strm_flat (.inr ⟨0, _, rfl, by simp⟩)⟩)) ?_
  rintro F1 H1 ⟨_, _, _, _, ⟨rr, rfl, hq, hrm⟩, hF, hH⟩
  injection hq with hq1 hq2; subst hq1; subst hq2
  (try simp only [nsl, Nat.reduceAdd, Nat.reduceLT, Nat.reduceSub] at hF); (try simp only [nsl, Nat.reduceAdd, Nat.reduceLT, Nat.reduceSub] at hH); subst hF; subst hH
  have h64r : -2000000000000 ≤ rr ∧ rr ≤ 2000000000000 := by simp only [List.mem_cons, List.not_mem_nil, or_false] at hrm; omega
  clear hrm
  refine WE ?_
  refine WR ?_
  refine al_ef rfl (ef_callm false (fun _ => flip_a 40 _ _ _ hs (by omega) (by omega) (by simp only [in64]; omega)) rfl .fn rfl (by decide) (by kernel_rfl) rfl rfl (fun _g => .cons (.p rfl) (.cons (.c rfl) .nil)) (fun _g => .cons (.c rfl) (.cons (.c rfl) .nil)) (by simp)) ?_
  rintro F1 H1 ⟨_, _, _, _, ⟨bb, rfl, hq⟩, hF, hH⟩
  injection hq with hq1 hq2; subst hq1; subst hq2
  (try simp only [nsl, Nat.reduceAdd, Nat.reduceLT, Nat.reduceSub] at hF); (try simp only [nsl, Nat.reduceAdd, Nat.reduceLT, Nat.reduceSub] at hH); subst hF; subst hH
  refine WE ?_
  refine aw_cond rfl (fun _ => ?_) (fun _ => ?_)
  · refine WR ?_
    refine al_ef rfl (ef_callm false (fun _ => oddb_v (-100000) 100000 _ _ _ hs (by omega) (by omega) (by omega) (by omega) (by omega) (by omega) (by omega)) rfl .fn rfl (by decide) (by kernel_rfl) rfl rfl (fun _g => .cons (.p rfl) (.cons (.c rfl) (.cons (.c rfl) .nil))) (fun _g => .cons (.c rfl) (.cons (.c rfl) .nil)) (by simp)) ?_
    rintro F1 H1 ⟨_, _, _, _, ⟨rr, ar, rfl, hq, hr3, hr4, h64r⟩, hF, hH⟩
    injection hq with hq1 hq2; subst hq1; subst hq2
    (try simp only [nsl, Nat.reduceAdd, Nat.reduceLT, Nat.reduceSub] at hF); (try simp only [nsl, Nat.reduceAdd, Nat.reduceLT, Nat.reduceSub] at hH); subst hF; subst hH
    refine WE ?_
    refine WA ?_
    refine aret_a [some 0] _ rfl (KK (t := 93) rfl) rfl (Cells.box rfl) (by simp) (by (try simp only [nm, putL, Nat.reduceAdd, cellsOf, cvOf]) <;> rfl) (by decide) (ZNK rfl) (fun _ => C0 rfl) ZCH ⟨⟨_, _, _⟩, _, rfl, rfl, ?_, ?_, ?_, ?_, ?_⟩
    all_goals first | assumption | omega
  · refine ZZ ?_
    refine WA ?_
    refine aret_a [some 0] _ rfl (KK (t := 93) rfl) rfl (Cells.box rfl) (by simp) (by (try simp only [nm, putL, Nat.reduceAdd, cellsOf, cvOf]) <;> rfl) (by decide) (ZNK rfl) (fun _ => C0 rfl) ZCH ⟨⟨_, _, _⟩, _, rfl, rfl, ?_, ?_, ?_, ?_, ?_⟩
    all_goals first | assumption | omega
/-- A face within so many vertices. -/
def fIn (n : Int) (f : Fac3) : Prop := (0 ≤ f.a ∧ f.a < n) ∧ (0 ≤ f.b ∧ f.b < n) ∧ (0 ≤ f.c ∧ f.c < n)
theorem tetF_in : ∀ f ∈ tetF, fIn 4 f := by simp [tetF, fIn]
/-- The corners of a block's sides. -/
abbrev quads : List (List CV) := [[I 0, I 2, I 3, I 1], [I 4, I 5, I 7, I 6], [I 0, I 1, I 5, I 4], [I 2, I 6, I 7, I 3], [I 0, I 4, I 6, I 2], [I 1, I 3, I 7, I 5]]
theorem quads_at {j : Nat} (h : j < 6) : ∃ a b c d : Int, quads[j]? = some [I a, I b, I c, I d] ∧ ((0 ≤ a ∧ a < 8) ∧ (0 ≤ b ∧ b < 8) ∧ (0 ≤ c ∧ c < 8) ∧ (0 ≤ d ∧ d < 8)) := by
  rcases j with _ | _ | _ | _ | _ | _ | j
  · exact ⟨0, 2, 3, 1, rfl, by omega⟩
  · exact ⟨4, 5, 7, 6, rfl, by omega⟩
  · exact ⟨0, 1, 5, 4, rfl, by omega⟩
  · exact ⟨2, 6, 7, 3, rfl, by omega⟩
  · exact ⟨0, 4, 6, 2, rfl, by omega⟩
  · exact ⟨1, 3, 7, 5, rfl, by omega⟩
  · omega
set_option maxHeartbeats 4000000 in
theorem block_v (p : Vec3) (x y z : Int) (hp : (-2000000000000 ≤ p.x ∧ p.x ≤ 2000000000000) ∧ (-2000000000000 ≤ p.y ∧ p.y ≤ 2000000000000) ∧ (-2000000000000 ≤ p.z ∧ p.z ≤ 2000000000000)) (hx : 0 ≤ x ∧ x ≤ 1000) (hy : 0 ≤ y ∧ y ≤ 1000) (hz : 0 ≤ z ∧ z ≤ 1000) :
    ACalls Tryz.prog 48 [.a (p.row.map .c), .c (I x), .c (I y), .c (I z)] [] fun u H => ∃ (V : List Vec3) (Fs : List Fac3) (c d : Nat), V.length = 8 ∧ Fs.length = 12 ∧ 12 ≤ d ∧ (∀ f ∈ Fs, fIn 8 f) ∧ u = .a [.o 0 0 V.length c, .o 1 0 Fs.length d] ∧ H = [.arr 93 3 c (vR V), .arr 97 3 d (fR Fs)] := by
  obtain ⟨px, py, pz⟩ := p
  simp only at hp
  refine acalls_of (N := 78) Tryz.func48 rfl rfl (by simp) fun E hE => ?_
  refine WA ?_
  refine WA ?_
  refine WA ?_
  refine aw_loopw (fun m F H => ∃ (k c : Nat) (L : List Vec3), m + k = 8 ∧ L.length = k ∧ F = [(1, .c (I x)), (2, .c (I y)), (3, .c (I z)), (4, .p 0 0 0), (8, .p 1 0 0), (9, .p 2 0 0), (13, .c (I k))] ∧ H = [.box [.c (I px), .c (I py), .c (I pz)], .box [.c (.r (.slice none 0 0) []), .c (.r (.slice none 0 0) [])], .box [.o 3 0 L.length c, .c (.r (.slice none 0 0) [])], .arr 93 3 c (vR L)]) ?_ ?_
  · refine wk_of [some 0, some 1, some 2, none] (fun _ => [(1, .c (I x)), (2, .c (I y)), (3, .c (I z)), (4, .p 0 0 0), (8, .p 1 0 0), (9, .p 2 0 0), (13, .c (I (0 : Nat)))]) (fun _ => [.box [.c (I px), .c (I py), .c (I pz)], .box [.c (.r (.slice none 0 0) []), .c (.r (.slice none 0 0) [])], .box [.o 3 0 0 0, .c (.r (.slice none 0 0) [])], .arr 93 3 0 []]) (by decide) (ZNL hE) ZCF ZCH (fun _ => ?_)
    exact ⟨8, 0, 0, [], rfl, rfl, rfl, rfl⟩
  rintro m F H ⟨k, c, L, hk, hL, rfl, rfl⟩
  refine WA ?_
  refine aw_if rfl (fun hlt => ?_) (fun hge => ?_)
  · have q1 : 0 ≤ x * ((k : Int) % 2) ∧ x * ((k : Int) % 2) ≤ 1000 * 2 := ⟨Int.mul_nonneg hx.1 (by omega), Int.mul_le_mul hx.2 (by omega) (by omega) (by omega)⟩
    have q2 : 0 ≤ y * ((k : Int) / 2 % 2) ∧ y * ((k : Int) / 2 % 2) ≤ 1000 * 2 := ⟨Int.mul_nonneg hy.1 (by omega), Int.mul_le_mul hy.2 (by omega) (by omega) (by omega)⟩
    have q3 : 0 ≤ z * ((k : Int) / 4) ∧ z * ((k : Int) / 4) ≤ 1000 * 2 := ⟨Int.mul_nonneg hz.1 (by omega), Int.mul_le_mul hz.2 (by omega) (by omega) (by omega)⟩
    have hLl : (vR L).length = k := by simp [hL]
    refine WA ?_
    refine WR ?_
    refine al_ef rfl (Zapp (KA (t := 26) rfl)) ?_
    rintro _ _ ⟨_, cc, hcc, rfl, rfl⟩
    refine WE ?_
    refine WA ?_
    refine wk_of [some 0, some 1, some 2, some 3] (fun _ => [(1, .c (I x)), (2, .c (I y)), (3, .c (I z)), (4, .p 0 0 0), (8, .p 1 0 0), (9, .p 2 0 0), (13, .c (I (k + 1 : Nat)))]) (fun _ => [.box [.c (I px), .c (I py), .c (I pz)], .box [.c (.r (.slice none 0 0) []), .c (.r (.slice none 0 0) [])], .box [.o 3 0 (L ++ [(⟨px + x * ((k : Int) % 2), py + y * ((k : Int) / 2 % 2), pz + z * ((k : Int) / 4)⟩ : Vec3)]).length cc, .c (.r (.slice none 0 0) [])], .arr 93 3 cc (vR (L ++ [(⟨px + x * ((k : Int) % 2), py + y * ((k : Int) / 2 % 2), pz + z * ((k : Int) / 4)⟩ : Vec3)]))]) (by decide) (ZNL hE) ZCF ZCH (fun _ => ?_)
    exact ⟨m - 1, by omega, k + 1, cc, _, by omega, by simp; omega, rfl, rfl⟩
  obtain rfl : k = 8 := by omega
  refine ZR ?_
  refine ZA (rd_builda (pl := [(0, 1), (1, 1), (2, 1), (3, 1)]) rfl (KZ (t := 156) rfl) rfl (by kernel_rfl) (Zbc (z := Zbc (z := Zbc (z := Zbc (z := .nil)))))) ?_
  refine ZA (rd_builda (pl := [(0, 1), (1, 1), (2, 1), (3, 1)]) rfl (KZ (t := 156) rfl) rfl (by kernel_rfl) (Zbc (z := Zbc (z := Zbc (z := Zbc (z := .nil)))))) ?_
  refine ZA (rd_builda (pl := [(0, 1), (1, 1), (2, 1), (3, 1)]) rfl (KZ (t := 156) rfl) rfl (by kernel_rfl) (Zbc (z := Zbc (z := Zbc (z := Zbc (z := .nil)))))) ?_
  refine ZA (rd_builda (pl := [(0, 1), (1, 1), (2, 1), (3, 1)]) rfl (KZ (t := 156) rfl) rfl (by kernel_rfl) (Zbc (z := Zbc (z := Zbc (z := Zbc (z := .nil)))))) ?_
  refine ZA (rd_builda (pl := [(0, 1), (1, 1), (2, 1), (3, 1)]) rfl (KZ (t := 156) rfl) rfl (by kernel_rfl) (Zbc (z := Zbc (z := Zbc (z := Zbc (z := .nil)))))) ?_
  refine ZA (rd_builda (pl := [(0, 1), (1, 1), (2, 1), (3, 1)]) rfl (KZ (t := 156) rfl) rfl (by kernel_rfl) (Zbc (z := Zbc (z := Zbc (z := Zbc (z := .nil)))))) ?_
  refine WE ?_
  refine aw_loopw (fun m F H => ∃ (j d : Nat) (Fs : List Fac3), m + j = 6 ∧ Fs.length = 2 * j ∧ Fs.length ≤ d ∧ (∀ f ∈ Fs, fIn 8 f) ∧ F = [(8, .p 0 0 0), (9, .p 1 0 0), (51, .o 4 0 6 6), (52, .c (I (6 : Nat))), (53, .c (I j))] ∧ H = [.box [.c (.r (.slice none 0 0) []), .c (.r (.slice none 0 0) [])], .box [.o 2 0 L.length c, .o 3 0 Fs.length d], .arr 93 3 c (vR L), .arr 97 3 d (fR Fs), .arr 156 4 6 quads]) ?_ ?_
  · refine wk_of [some 1, some 2, some 3, none, some 4] (fun _ => [(8, .p 0 0 0), (9, .p 1 0 0), (51, .o 4 0 6 6), (52, .c (I (6 : Nat))), (53, .c (I (0 : Nat)))]) (fun _ => [.box [.c (.r (.slice none 0 0) []), .c (.r (.slice none 0 0) [])], .box [.o 2 0 L.length c, .o 3 0 0 0], .arr 93 3 c (vR L), .arr 97 3 0 [], .arr 156 4 6 quads]) (by decide) (ZNL hE) ZCF ZCH (fun _ => ?_)
    exact ⟨6, 0, 0, [], rfl, rfl, by simp, by simp, rfl, rfl⟩
  rintro m F H ⟨j, d, Fs, hj, hFl, hFd, hFi, rfl, rfl⟩
  refine WA ?_
  refine aw_if rfl (fun hlt2 => ?_) (fun hge2 => ?_)
  · obtain ⟨qa, qb, qc, qd, hrow, h4⟩ := quads_at (j := j) (by omega)
    have hrow0 : quads[0 + j]? = some [I qa, I qb, I qc, I qd] := by rw [Nat.zero_add]; exact hrow
    refine WA ?_
    refine ZR ?_
    iterate 2 refine WX1 ?_
    refine ZA (rd_ixa (e := 3) (sz := 1) (n := 4) (i := 0) rfl (by kernel_rfl) rfl rfl rfl (by omega)) ?_
    refine WX1 ?_
    refine ZA (rd_ixa (e := 3) (sz := 1) (n := 4) (i := 1) rfl (by kernel_rfl) rfl rfl rfl (by omega)) ?_
    refine WX1 ?_
    refine ZA (rd_ixa (e := 3) (sz := 1) (n := 4) (i := 2) rfl (by kernel_rfl) rfl rfl rfl (by omega)) ?_
    iterate 2 refine WX1 ?_
    refine ZA (rd_ixa (e := 3) (sz := 1) (n := 4) (i := 0) rfl (by kernel_rfl) rfl rfl rfl (by omega)) ?_
    refine WX1 ?_
    refine ZA (rd_ixa (e := 3) (sz := 1) (n := 4) (i := 2) rfl (by kernel_rfl) rfl rfl rfl (by omega)) ?_
    refine WX1 ?_
    refine ZA (rd_ixa (e := 3) (sz := 1) (n := 4) (i := 3) rfl (by kernel_rfl) rfl rfl rfl (by omega)) ?_
    refine WO ?_
    refine al_ef rfl (Zapp (KA (t := 27) rfl)) ?_
    rintro _ _ ⟨_, cc, hcc, rfl, rfl⟩
    refine WE ?_
    refine WA ?_
    refine wk_of [some 0, some 1, some 2, some 3, some 4] (fun _ => [(8, .p 0 0 0), (9, .p 1 0 0), (51, .o 4 0 6 6), (52, .c (I (6 : Nat))), (53, .c (I (j + 1 : Nat)))]) (fun _ => [.box [.c (.r (.slice none 0 0) []), .c (.r (.slice none 0 0) [])], .box [.o 2 0 L.length c, .o 3 0 (Fs ++ [(⟨qa, qb, qc⟩ : Fac3), ⟨qa, qc, qd⟩]).length cc], .arr 93 3 c (vR L), .arr 97 3 cc (fR (Fs ++ [⟨qa, qb, qc⟩, ⟨qa, qc, qd⟩])), .arr 156 4 6 quads]) (by decide) (ZNL hE) ZCF ZCH (fun _ => ?_)
    exact ⟨m - 1, by omega, j + 1, cc, _, by omega, by simp; omega, by simp; omega, fun f hf => by
      simp only [List.mem_append, List.mem_cons, List.not_mem_nil, or_false] at hf
      rcases hf with hf | rfl | rfl
      · exact hFi f hf
      · simp only [fIn]; omega
      · simp only [fIn]; omega, rfl, rfl⟩
  obtain rfl : j = 6 := by omega
  refine WA ?_
  exact aret_a [some 2, some 3] [.arr 93 3 c (vR L), .arr 97 3 d (fR Fs)] rfl (KK (t := 29) rfl) rfl (Cells.box rfl) (by simp) (by (try simp only [nm, putL, Nat.reduceAdd, cellsOf, cvOf]) <;> rfl) (by decide) (ZNK rfl) (fun _ => .cons (.o rfl rfl) (.cons (.o rfl rfl) .nil)) ZCH ⟨L, Fs, c, d, hL, hFl, by omega, hFi, rfl, rfl⟩
end Go.Proofs.YtlblimbelfenaaaGreat
