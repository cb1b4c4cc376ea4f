/- Ways that meet, by value. -/
import Derived.Test.YthanangkmjjbaaaGreatDoorQbd
set_option linter.unusedSimpArgs false
set_option linter.unusedVariables false
/- Ways that meet, by value. -/
-- NEWM
namespace Go.Proofs.YthanangkmjjbaaaGreatDoor
open Go Go.RowKit
set_option maxRecDepth 100000
set_option maxHeartbeats 8000000 in
theorem meet_v (a b c d : P2) (ha : a.in) (hb : b.in) (hc : c.in) (hd : d.in) : ACalls Tryz.prog 152 [.a [.c (I a.x), .c (I a.y)], .a [.c (I b.x), .c (I b.y)], .a [.c (I c.x), .c (I c.y)], .a [.c (I d.x), .c (I d.y)]] [] fun u H => u = .c (B (metB a b c d)) ∧ H = [] := by
  refine acalls_of (N := 52) Tryz.func152 rfl rfl (by simp) fun E hE => ?_
  refine WA ?_
  obtain ⟨p, hp⟩ : ∃ p, apaB a.x b.x c.x d.x = p := ⟨_, rfl⟩
  obtain ⟨q, hq⟩ : ∃ p, apaB a.y b.y c.y d.y = p := ⟨_, rfl⟩
  obtain ⟨r, hr⟩ : ∃ p, acrB (trn a b c) (trn a b d) = p := ⟨_, rfl⟩
  obtain ⟨s, hs⟩ : ∃ p, acrB (trn c d a) (trn c d b) = p := ⟨_, rfl⟩
  have e : metB a b c d = (!(p || q) && (r && s)) := by rw [metB, hp, hq, hr, hs]
  rw [e]
  refine aw_cut (fun F H => F = [(4, .p 0 0 0), (5, .p 1 0 0), (6, .p 2 0 0), (7, .p 3 0 0), (29, .c (B (p || q)))] ∧ H = [.box [.c (I a.x), .c (I a.y)], .box [.c (I b.x), .c (I b.y)], .box [.c (I c.x), .c (I c.y)], .box [.c (I d.x), .c (I d.y)]]) ?_ ?_ wk_aw
  · cases p with
    | true =>
      refine WR ?_
      refine al_ef rfl (ef_call0 false (fun _ => apart_v a.x b.x c.x d.x) rfl .fn rfl (by decide) (by kernel_rfl) rfl (fun _ => C0 rfl) (by simp)) ?_
      rintro _ _ ⟨_, _, _, ⟨hu, rfl⟩, hF, hH⟩
      rw [hp] at hu; subst hu
      (try simp only [nsl, Nat.reduceAdd, Nat.reduceLT, Nat.reduceSub] at hF); (try simp only [nsl, Nat.reduceAdd, Nat.reduceLT, Nat.reduceSub] at hH); subst hF; subst hH
      refine WO ?_
      first | refine ZS ?_ | (refine G1 rfl ?_; refine al_ef rfl (ef_call0 false (fun _ => apart_v a.y b.y c.y d.y) rfl .fn rfl (by decide) (by kernel_rfl) rfl (fun _ => C0 rfl) (by simp)) ?_; rintro _ _ ⟨_, _, _, ⟨hu, rfl⟩, hF, hH⟩; rw [hq] at hu; subst hu; (try simp only [nsl, Nat.reduceAdd, Nat.reduceLT, Nat.reduceSub] at hF); (try simp only [nsl, Nat.reduceAdd, Nat.reduceLT, Nat.reduceSub] at hH); subst hF; subst hH) | skip
      refine WE ?_
      all_goals (exact wk_of [some 0, some 1, some 2, some 3] (fun _ => [(4, .p 0 0 0), (5, .p 1 0 0), (6, .p 2 0 0), (7, .p 3 0 0), (29, .c (B true))]) (fun _ => _) (by decide) (ZNL hE) ZCF ZCH (fun _ => ⟨rfl, rfl⟩))
    | false =>
      refine WR ?_
      refine al_ef rfl (ef_call0 false (fun _ => apart_v a.x b.x c.x d.x) rfl .fn rfl (by decide) (by kernel_rfl) rfl (fun _ => C0 rfl) (by simp)) ?_
      rintro _ _ ⟨_, _, _, ⟨hu, rfl⟩, hF, hH⟩
      rw [hp] at hu; subst hu
      (try simp only [nsl, Nat.reduceAdd, Nat.reduceLT, Nat.reduceSub] at hF); (try simp only [nsl, Nat.reduceAdd, Nat.reduceLT, Nat.reduceSub] at hH); subst hF; subst hH
      refine WO ?_
      first | refine ZS ?_ | (refine G1 rfl ?_; refine al_ef rfl (ef_call0 false (fun _ => apart_v a.y b.y c.y d.y) rfl .fn rfl (by decide) (by kernel_rfl) rfl (fun _ => C0 rfl) (by simp)) ?_; rintro _ _ ⟨_, _, _, ⟨hu, rfl⟩, hF, hH⟩; rw [hq] at hu; subst hu; (try simp only [nsl, Nat.reduceAdd, Nat.reduceLT, Nat.reduceSub] at hF); (try simp only [nsl, Nat.reduceAdd, Nat.reduceLT, Nat.reduceSub] at hH); subst hF; subst hH) | skip
      refine WE ?_
      all_goals (exact wk_of [some 0, some 1, some 2, some 3] (fun _ => [(4, .p 0 0 0), (5, .p 1 0 0), (6, .p 2 0 0), (7, .p 3 0 0), (29, .c (B q))]) (fun _ => _) (by decide) (ZNL hE) ZCF ZCH (fun _ => ⟨rfl, rfl⟩))
  rintro F H ⟨rfl, rfl⟩
  refine ZZ ?_
  cases hpq : (p || q) with
  | true =>
    refine aw_cond_t rfl ?_
    refine WA ?_
    exact aret_1 [] _ rfl rfl rfl (by decide) (ZNK rfl) (fun _ => .nil) ⟨rfl, rfl⟩
  | false =>
    refine aw_cond_f rfl ?_
    refine ZZ ?_
    refine WA ?_
    cases r with
    | true =>
      refine ZZ ?_
      refine aw_regionT [(0, none), (1, none), (2, none), (3, none), (5, none), (6, none), (7, none), (4, some [0, 5, 6, 7]), (8, some [0]), (9, some []), (10, none), (11, none), (12, none), (13, none), (14, none), (16, none), (17, none), (18, none), (15, some [11, 16, 17, 18]), (19, some [11]), (20, some []), (21, none), (22, none)] hMixed (by kernel_rfl) ?_
      refine WP ?_
      refine at_ef rfl rfl (ef_call0 false (fun _ => turn_v a b c ha hb hc) rfl .fn rfl (by decide) (by kernel_rfl) rfl (fun _g => .cons (.aL (C0 rfl)) (.cons (.aL (C0 rfl)) (.cons (.aL (C0 rfl)) .nil))) (by simp)) ?_
      rintro _ _ ⟨_, _, _, ⟨rfl, rfl⟩, hF, hH⟩
      (try simp only [nsl, Nat.reduceAdd, Nat.reduceLT, Nat.reduceSub] at hF); (try simp only [nsl, Nat.reduceAdd, Nat.reduceLT, Nat.reduceSub] at hH); subst hF; subst hH
      refine ⟨ag_cons (by first | exact ag_rd rfl rfl rfl (rd_move rfl rfl) rfl) (ag_cons (by first | exact ag_rd rfl rfl rfl (ZK (KK (t := 47) rfl)) rfl) (ag_cons (by first | exact ag_rd rfl rfl rfl (ZK (KK (t := 47) rfl)) rfl) (ag_cons (by first | exact ag_rd rfl rfl rfl (ZK (KK (t := 47) rfl)) rfl) (ag_none)))), ?_⟩
      refine at_ef rfl rfl (ef_call0 false (fun _ => turn_v a b d ha hb hd) rfl .fn rfl (by decide) (by kernel_rfl) rfl (fun _g => .cons (.aL (C0 rfl)) (.cons (.aL (C0 rfl)) (.cons (.aL (C0 rfl)) .nil))) (by simp)) ?_
      rintro _ _ ⟨_, _, _, ⟨rfl, rfl⟩, hF, hH⟩
      (try simp only [nsl, Nat.reduceAdd, Nat.reduceLT, Nat.reduceSub] at hF); (try simp only [nsl, Nat.reduceAdd, Nat.reduceLT, Nat.reduceSub] at hH); subst hF; subst hH
      refine ⟨ag_cons (by first | exact ag_rd rfl rfl rfl (rd_move rfl rfl) rfl) (ag_none), ?_⟩
      refine at_ef rfl rfl (ef_call0 false (fun _ => acr_v (trn a b c) (trn a b d)) rfl (.clo rfl) rfl (by decide) (by kernel_rfl) rfl (fun _ => C0 rfl) (by simp)) ?_
      rintro _ _ ⟨_, _, _, ⟨hu, rfl⟩, hF, hH⟩
      rw [hr] at hu; subst hu
      (try simp only [nsl, Nat.reduceAdd, Nat.reduceLT, Nat.reduceSub] at hF); (try simp only [nsl, Nat.reduceAdd, Nat.reduceLT, Nat.reduceSub] at hH); subst hF; subst hH
      refine ⟨ag_none, ?_⟩
      refine WP ?_
      first | refine at_efN rfl rfl rfl (by decide) ⟨ag_cons (by first | exact ag_un rfl rfl rfl rfl | exact ag_rdK rfl rfl rfl (rd_move rfl rfl) rfl) (ag_cons (by first | exact ag_un rfl rfl rfl rfl | exact ag_rdK rfl rfl rfl (ZK (KK (t := 47) rfl)) rfl) (ag_cons (by first | exact ag_un rfl rfl rfl rfl | exact ag_rdK rfl rfl rfl (ZK (KK (t := 47) rfl)) rfl) (ag_cons (by first | exact ag_un rfl rfl rfl rfl | exact ag_rdK rfl rfl rfl (ZK (KK (t := 47) rfl)) rfl) (ag_none)))), ?_⟩ | (refine at_efK rfl (ef_call0 false (fun _ => turn_v c d a hc hd ha) rfl .fn rfl (by decide) (by kernel_rfl) rfl (fun _g => .cons (.aL (C0 rfl)) (.cons (.aL (C0 rfl)) (.cons (.aL (C0 rfl)) .nil))) (by simp)) ?_; rintro _ _ ⟨_, _, _, ⟨rfl, rfl⟩, hF, hH⟩; (try simp only [nsl, Nat.reduceAdd, Nat.reduceLT, Nat.reduceSub] at hF); (try simp only [nsl, Nat.reduceAdd, Nat.reduceLT, Nat.reduceSub] at hH); subst hF; subst hH; refine ⟨ag_cons (by first | exact ag_un rfl rfl rfl rfl | exact ag_rdK rfl rfl rfl (rd_move rfl rfl) rfl) (ag_cons (by first | exact ag_un rfl rfl rfl rfl | exact ag_rdK rfl rfl rfl (ZK (KK (t := 47) rfl)) rfl) (ag_cons (by first | exact ag_un rfl rfl rfl rfl | exact ag_rdK rfl rfl rfl (ZK (KK (t := 47) rfl)) rfl) (ag_cons (by first | exact ag_un rfl rfl rfl rfl | exact ag_rdK rfl rfl rfl (ZK (KK (t := 47) rfl)) rfl) (ag_none)))), ?_⟩)
      first | refine at_efN rfl rfl rfl (by decide) ⟨ag_cons (by first | exact ag_un rfl rfl rfl rfl | exact ag_rdK rfl rfl rfl (rd_move rfl rfl) rfl) (ag_none), ?_⟩ | (refine at_efK rfl (ef_call0 false (fun _ => turn_v c d b hc hd hb) rfl .fn rfl (by decide) (by kernel_rfl) rfl (fun _g => .cons (.aL (C0 rfl)) (.cons (.aL (C0 rfl)) (.cons (.aL (C0 rfl)) .nil))) (by simp)) ?_; rintro _ _ ⟨_, _, _, ⟨rfl, rfl⟩, hF, hH⟩; (try simp only [nsl, Nat.reduceAdd, Nat.reduceLT, Nat.reduceSub] at hF); (try simp only [nsl, Nat.reduceAdd, Nat.reduceLT, Nat.reduceSub] at hH); subst hF; subst hH; refine ⟨ag_cons (by first | exact ag_un rfl rfl rfl rfl | exact ag_rdK rfl rfl rfl (rd_move rfl rfl) rfl) (ag_none), ?_⟩)
      first | refine at_efN rfl rfl rfl (by decide) ⟨ag_none, ?_⟩ | (refine at_efK rfl (ef_call0 false (fun _ => acr_v (trn c d a) (trn c d b)) rfl (.clo rfl) rfl (by decide) (by kernel_rfl) rfl (fun _ => C0 rfl) (by simp)) ?_; rintro _ _ ⟨_, _, _, ⟨hu, rfl⟩, hF, hH⟩; rw [hs] at hu; subst hu; (try simp only [nsl, Nat.reduceAdd, Nat.reduceLT, Nat.reduceSub] at hF); (try simp only [nsl, Nat.reduceAdd, Nat.reduceLT, Nat.reduceSub] at hH); subst hF; subst hH; refine ⟨ag_none, ?_⟩)
      refine WQ ?_
      all_goals (exact aret_1 [] _ rfl rfl rfl (by decide) (ZNK rfl) (fun _ => .nil) ⟨rfl, rfl⟩)
    | false =>
      refine ZZ ?_
      refine aw_regionT [(0, none), (1, none), (2, none), (3, none), (5, none), (6, none), (7, none), (4, some [0, 5, 6, 7]), (8, some [0]), (9, some []), (10, none), (11, none), (12, none), (13, none), (14, none), (16, none), (17, none), (18, none), (15, some [11, 16, 17, 18]), (19, some [11]), (20, some []), (21, none), (22, none)] hMixed (by kernel_rfl) ?_
      refine WP ?_
      refine at_ef rfl rfl (ef_call0 false (fun _ => turn_v a b c ha hb hc) rfl .fn rfl (by decide) (by kernel_rfl) rfl (fun _g => .cons (.aL (C0 rfl)) (.cons (.aL (C0 rfl)) (.cons (.aL (C0 rfl)) .nil))) (by simp)) ?_
      rintro _ _ ⟨_, _, _, ⟨rfl, rfl⟩, hF, hH⟩
      (try simp only [nsl, Nat.reduceAdd, Nat.reduceLT, Nat.reduceSub] at hF); (try simp only [nsl, Nat.reduceAdd, Nat.reduceLT, Nat.reduceSub] at hH); subst hF; subst hH
      refine ⟨ag_cons (by first | exact ag_rd rfl rfl rfl (rd_move rfl rfl) rfl) (ag_cons (by first | exact ag_rd rfl rfl rfl (ZK (KK (t := 47) rfl)) rfl) (ag_cons (by first | exact ag_rd rfl rfl rfl (ZK (KK (t := 47) rfl)) rfl) (ag_cons (by first | exact ag_rd rfl rfl rfl (ZK (KK (t := 47) rfl)) rfl) (ag_none)))), ?_⟩
      refine at_ef rfl rfl (ef_call0 false (fun _ => turn_v a b d ha hb hd) rfl .fn rfl (by decide) (by kernel_rfl) rfl (fun _g => .cons (.aL (C0 rfl)) (.cons (.aL (C0 rfl)) (.cons (.aL (C0 rfl)) .nil))) (by simp)) ?_
      rintro _ _ ⟨_, _, _, ⟨rfl, rfl⟩, hF, hH⟩
      (try simp only [nsl, Nat.reduceAdd, Nat.reduceLT, Nat.reduceSub] at hF); (try simp only [nsl, Nat.reduceAdd, Nat.reduceLT, Nat.reduceSub] at hH); subst hF; subst hH
      refine ⟨ag_cons (by first | exact ag_rd rfl rfl rfl (rd_move rfl rfl) rfl) (ag_none), ?_⟩
      refine at_ef rfl rfl (ef_call0 false (fun _ => acr_v (trn a b c) (trn a b d)) rfl (.clo rfl) rfl (by decide) (by kernel_rfl) rfl (fun _ => C0 rfl) (by simp)) ?_
      rintro _ _ ⟨_, _, _, ⟨hu, rfl⟩, hF, hH⟩
      rw [hr] at hu; subst hu
      (try simp only [nsl, Nat.reduceAdd, Nat.reduceLT, Nat.reduceSub] at hF); (try simp only [nsl, Nat.reduceAdd, Nat.reduceLT, Nat.reduceSub] at hH); subst hF; subst hH
      refine ⟨ag_none, ?_⟩
      refine WP ?_
      first | refine at_efN rfl rfl rfl (by decide) ⟨ag_cons (by first | exact ag_un rfl rfl rfl rfl | exact ag_rdK rfl rfl rfl (rd_move rfl rfl) rfl) (ag_cons (by first | exact ag_un rfl rfl rfl rfl | exact ag_rdK rfl rfl rfl (ZK (KK (t := 47) rfl)) rfl) (ag_cons (by first | exact ag_un rfl rfl rfl rfl | exact ag_rdK rfl rfl rfl (ZK (KK (t := 47) rfl)) rfl) (ag_cons (by first | exact ag_un rfl rfl rfl rfl | exact ag_rdK rfl rfl rfl (ZK (KK (t := 47) rfl)) rfl) (ag_none)))), ?_⟩ | (refine at_efK rfl (ef_call0 false (fun _ => turn_v c d a hc hd ha) rfl .fn rfl (by decide) (by kernel_rfl) rfl (fun _g => .cons (.aL (C0 rfl)) (.cons (.aL (C0 rfl)) (.cons (.aL (C0 rfl)) .nil))) (by simp)) ?_; rintro _ _ ⟨_, _, _, ⟨rfl, rfl⟩, hF, hH⟩; (try simp only [nsl, Nat.reduceAdd, Nat.reduceLT, Nat.reduceSub] at hF); (try simp only [nsl, Nat.reduceAdd, Nat.reduceLT, Nat.reduceSub] at hH); subst hF; subst hH; refine ⟨ag_cons (by first | exact ag_un rfl rfl rfl rfl | exact ag_rdK rfl rfl rfl (rd_move rfl rfl) rfl) (ag_cons (by first | exact ag_un rfl rfl rfl rfl | exact ag_rdK rfl rfl rfl (ZK (KK (t := 47) rfl)) rfl) (ag_cons (by first | exact ag_un rfl rfl rfl rfl | exact ag_rdK rfl rfl rfl (ZK (KK (t := 47) rfl)) rfl) (ag_cons (by first | exact ag_un rfl rfl rfl rfl | exact ag_rdK rfl rfl rfl (ZK (KK (t := 47) rfl)) rfl) (ag_none)))), ?_⟩)
      first | refine at_efN rfl rfl rfl (by decide) ⟨ag_cons (by first | exact ag_un rfl rfl rfl rfl | exact ag_rdK rfl rfl rfl (rd_move rfl rfl) rfl) (ag_none), ?_⟩ | (refine at_efK rfl (ef_call0 false (fun _ => turn_v c d b hc hd hb) rfl .fn rfl (by decide) (by kernel_rfl) rfl (fun _g => .cons (.aL (C0 rfl)) (.cons (.aL (C0 rfl)) (.cons (.aL (C0 rfl)) .nil))) (by simp)) ?_; rintro _ _ ⟨_, _, _, ⟨rfl, rfl⟩, hF, hH⟩; (try simp only [nsl, Nat.reduceAdd, Nat.reduceLT, Nat.reduceSub] at hF); (try simp only [nsl, Nat.reduceAdd, Nat.reduceLT, Nat.reduceSub] at hH); subst hF; subst hH; refine ⟨ag_cons (by first | exact ag_un rfl rfl rfl rfl | exact ag_rdK rfl rfl rfl (rd_move rfl rfl) rfl) (ag_none), ?_⟩)
      first | refine at_efN rfl rfl rfl (by decide) ⟨ag_none, ?_⟩ | (refine at_efK rfl (ef_call0 false (fun _ => acr_v (trn c d a) (trn c d b)) rfl (.clo rfl) rfl (by decide) (by kernel_rfl) rfl (fun _ => C0 rfl) (by simp)) ?_; rintro _ _ ⟨_, _, _, ⟨hu, rfl⟩, hF, hH⟩; rw [hs] at hu; subst hu; (try simp only [nsl, Nat.reduceAdd, Nat.reduceLT, Nat.reduceSub] at hF); (try simp only [nsl, Nat.reduceAdd, Nat.reduceLT, Nat.reduceSub] at hH); subst hF; subst hH; refine ⟨ag_none, ?_⟩)
      refine WQ ?_
      all_goals (exact aret_1 [] _ rfl rfl rfl (by decide) (ZNK rfl) (fun _ => .nil) ⟨rfl, rfl⟩)
end Go.Proofs.YthanangkmjjbaaaGreatDoor
