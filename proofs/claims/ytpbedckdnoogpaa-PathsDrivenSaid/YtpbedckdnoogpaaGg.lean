/- Moves of paths: the document's differences; legs, by value. -/
import Derived.Test.YtpbedckdnoogpaaGf
set_option linter.unusedSimpArgs false
set_option linter.unusedVariables false
namespace Go.Proofs.Ytpbedckdnoogpaa
open Go Go.RowKit
set_option maxRecDepth 100000
theorem vectors_a (l : List Pt) (v : Value) (b : Bool) (hf : ptsF l b = 0) : ACalls Try.prog 155 [pth v l b] [] fun u H => ∃ v', u = .c (pts_r v' (difs l b)) ∧ H = [] := by
  obtain ⟨q1, q2, q3⟩ := ptsF_ok hf
  obtain ⟨r1, r2, r3⟩ := ringP_ok hf
  have e1 : (l.map Pt.row).length = l.length := by simp
  refine acalls_of (N := 57) Try.func155 rfl rfl (by simp) fun E hE => ?_
  refine WA ?_
  refine WR ?_
  refine al_ef rfl (ef_call0 true (fun _ => cloneP_a (l.map Pt.row) v (okPts l) (by omega)) rfl .fn rfl (by decide) (by kernel_rfl) rfl (fun _ => .cons (.c rfl) .nil) (fun _ _ u Hr ⟨c, _, hu, hH⟩ => by rw [hu, hH]; exact ⟨.o, fun o ho => by rw [List.mem_singleton.1 ho]; exact pt_flat _ _⟩)) ?_
  rintro _ _ ⟨_, _, _, ⟨c0, hc0, rfl, rfl⟩, hF, hH⟩
  (try simp only [nsl, Nat.reduceAdd, Nat.reduceLT, Nat.reduceSub] at hF); (try simp only [nsl, Nat.reduceAdd, Nat.reduceLT, Nat.reduceSub] at hH); subst hF; subst hH
  refine WE ?_
  refine WR ?_
  refine al_nil ?_
  refine aseq_n ?_
  refine aw_cut (fun F H => ∃ vr, F = [(3, .c (pts_r vr (ringP l b)))] ∧ H = []) ?_ ?_ wk_aw
  · refine aw_cond rfl (fun hb => ?_) (fun hb => ?_)
    · subst hb
      obtain ⟨a, ha⟩ : ∃ x, l[0]? = some x := ⟨_, List.getElem?_eq_getElem (by omega)⟩
      have hra : (l.map Pt.row)[0]? = some [I a.x, I a.y] := by rw [List.getElem?_map, ha]; rfl
      have hta : l.take 1 = [a] := by
        cases l with
        | nil => simp at q1
        | cons x l => simp at ha; subst ha; rfl
      refine ZR ?_
      iterate 2 refine WX1 ?_
      refine ZA (rd_index (i := 0) rfl (KE (t := 94) rfl) rfl rfl rfl rfl (by omega)) ?_
      refine WO ?_
      refine al_ef rfl (Zapp (KA (t := 94) rfl)) ?_
      rintro _ _ ⟨_, cc, hcc, rfl, rfl⟩
      refine WE ?_
      refine wk_of [] (fun g => [(3, .c (.r (g (.o 1 0 _ cc)) ((ringP l true).map Pt.row)))]) (fun _ => _) (by decide) (ZNL hE) (fun _ => .cons rfl (.frz rfl rfl (by rw [List.drop_zero, List.take_of_length_le (by simp), ringP, if_pos rfl, hta, List.map_append]; rfl) (by simp [ringP, hta]) rfl) .nil) (fun _ => .nil) (fun g => ⟨_, rfl, rfl⟩)
    · subst hb
      refine ZZ ?_
      refine wk_of [] (fun g => [(3, .c (.r (g (.o 1 0 _ c0)) ((ringP l false).map Pt.row)))]) (fun _ => _) (by decide) (ZNL hE) (fun _ => .cons rfl (.frz rfl rfl (by rw [List.drop_zero, List.take_of_length_le (by simp)]; rfl) (by simp [ringP]) rfl) .nil) (fun _ => .nil) (fun g => ⟨_, rfl, rfl⟩)
  rintro F H ⟨vr, rfl, rfl⟩
  obtain ⟨L, hL⟩ : ∃ L, L = ringP l b := ⟨_, rfl⟩
  have hd : difs l b = difF L (L.length - 1) := by rw [hL]; rfl
  rw [hd]
  rw [← hL] at r1 r2 r3 ⊢
  have e2 : (L.map Pt.row).length = L.length := by simp
  refine WA ?_
  refine WA ?_
  refine aw_loopw (fun m F H => ∃ (k c : Nat) (o : List Pt), m + k + 1 = L.length ∧ o = difF L k ∧ F = [(3, .c (pts_r vr L)), (4, .o 0 0 o.length c), (5, .c (I (k + 1 : Nat)))] ∧ H = [.arr 145 2 c (o.map Pt.row)]) ?_ ?_
  · refine wk_of [none] (fun _ => [(3, .c (pts_r vr L)), (4, .o 0 0 ([] : List Pt).length 0), (5, .c (I (0 + 1 : Nat)))]) (fun _ => [.arr 145 2 0 (([] : List Pt).map Pt.row)]) (by decide) (ZNL hE) ZCF ZCH (fun _ => ?_)
    exact ⟨L.length - 1, 0, 0, [], by omega, rfl, rfl, rfl⟩
  rintro m F H ⟨k, c, o, hk, ho, rfl, rfl⟩
  have hol := difF_len L k
  rw [← ho] at hol
  refine WA ?_
  refine aw_if rfl (fun hlt => ?_) (fun hge => ?_)
  · obtain ⟨a, ha⟩ : ∃ x, L[k]? = some x := ⟨_, List.getElem?_eq_getElem (by omega)⟩
    obtain ⟨b', hb⟩ : ∃ x, L[k + 1]? = some x := ⟨_, List.getElem?_eq_getElem (by omega)⟩
    have hra : (L.map Pt.row)[k]? = some [I a.x, I a.y] := by rw [List.getElem?_map, ha]; rfl
    have hrb : (L.map Pt.row)[k + 1]? = some [I b'.x, I b'.y] := by rw [List.getElem?_map, hb]; rfl
    have hna := Pt.near (r3 a (List.mem_of_getElem? ha))
    have hnb := Pt.near (r3 b' (List.mem_of_getElem? hb))
    have hnx := difF_next ha hb
    refine ZZ ?_
    refine aw_regionT [(0, none), (1, none), (2, none), (3, none), (4, none), (5, none), (6, none), (7, none), (8, none), (9, none), (10, none), (11, none), (12, none), (13, none), (14, none), (15, none), (16, none), (17, none), (18, none), (19, none), (20, none), (21, none), (22, none), (23, none), (24, none), (25, some [0, 1, 2, 3, 4, 5, 6, 7, 8, 9, 10, 11, 12, 13, 14, 15, 16, 17, 18, 19, 20, 21, 22, 23, 24]), (26, some [])] hMixed (by kernel_rfl) ?_
    iterate 7 refine WX2 ?_
    refine ZT rfl (rd_subz (z := (k : Int)) rfl rfl rfl (by omega) (by omega)) ?_
    iterate 11 refine WX2 ?_
    refine ZT rfl (rd_subz (z := (k : Int)) rfl rfl rfl (by omega) (by omega)) ?_
    refine WQ ?_
    refine WA ?_
    refine aw_if rfl (fun hne => ?_) (fun heq => ?_)
    · refine WR ?_
      refine al_ef rfl (Zapp (KA (t := 94) rfl)) ?_
      rintro _ _ ⟨_, cc, hcc, rfl, rfl⟩
      refine WE ?_
      refine WA ?_
      refine wk_of [some 0] (fun _ => [(3, .c (pts_r vr L)), (4, .o 0 0 (o ++ [b'.sub a]).length cc), (5, .c (I (k + 1 + 1 : Nat)))]) (fun _ => _) (by decide) (ZNL hE) ZCF ZCH (fun _ => ?_)
      exact ⟨m - 1, by omega, k + 1, cc, o ++ [b'.sub a], by omega, by rw [hnx, ← ho, if_neg (fun e => hne (by subst e; omega))], rfl, by rw [List.map_append]; rfl⟩
    · refine ZZ ?_
      refine WA ?_
      refine wk_of [some 0] (fun _ => [(3, .c (pts_r vr L)), (4, .o 0 0 o.length c), (5, .c (I (k + 1 + 1 : Nat)))]) (fun _ => _) (by decide) (ZNL hE) ZCF ZCH (fun _ => ?_)
      exact ⟨m - 1, by omega, k + 1, c, o, by omega, by rw [hnx, ← ho, if_pos (pt_eq.1 (by omega)), List.append_nil], rfl, rfl⟩
  obtain rfl : k = L.length - 1 := by omega
  subst ho
  refine WA ?_
  exact aret_f1 [] [] rfl rfl rfl rfl (by rw [List.drop_zero, List.take_of_length_le (by simp)]) (by simp) (by decide) (by decide) (ZNK rfl) (fun _ => .nil) (fun v' => ⟨v', rfl, rfl⟩)
/-- What is wrong with a path that is driven. -/
def movF (l : List Pt) (b : Bool) (n : Int) : Int := if pathF l b n ≠ 0 then pathF l b n else if (difs l b).length = 0 then 8 else 0
theorem pathF_ok {l : List Pt} {b : Bool} {n : Int} (h : pathF l b n = 0) : ptsF l b = 0 ∧ 1 ≤ n ∧ n ≤ 100000 := by
  unfold pathF at h
  split at h
  · omega
  · unfold spanF at h
    split at h
    · omega
    · omega
theorem movF_ok {l : List Pt} {b : Bool} {n : Int} (h : movF l b n = 0) : pathF l b n = 0 ∧ 1 ≤ (difs l b).length := by
  unfold movF at h
  split at h
  · omega
  · split at h
    · omega
    · omega
theorem moves_a (l : List Pt) (v : Value) (b : Bool) (n : Int) : ACalls Try.prog 144 [pth v l b, .c (I n)] [] fun u H => ∃ v', u = .t [.c (pts_r v' (if movF l b n = 0 then difs l b else [])), .c (I (movF l b n))] ∧ H = [] := by
  have e2 : ((difs l b).map Pt.row).length = (difs l b).length := by simp
  refine acalls_of (N := 21) Try.func144 rfl rfl (by simp) fun E hE => ?_
  refine WA ?_
  refine WR ?_
  refine al_ef rfl (ef_call0 false (fun _ => pathfault_a l v b) rfl .fn rfl (by decide) (by kernel_rfl) rfl (fun _ => C0 rfl) (by simp)) ?_
  rintro _ _ ⟨_, _, _, ⟨rfl, rfl⟩, hF, hH⟩
  (try simp only [nsl, Nat.reduceAdd, Nat.reduceLT, Nat.reduceSub] at hF); (try simp only [nsl, Nat.reduceAdd, Nat.reduceLT, Nat.reduceSub] at hH); subst hF; subst hH
  refine WE ?_
  refine WA ?_
  refine aw_if rfl (fun h0 => ?_) (fun h0 => ?_)
  · have hm : movF l b n = ptsF l b := by rw [movF, pathF, if_pos h0, if_pos h0]
    refine WA ?_
    exact aret_2 [] _ rfl rfl rfl rfl rfl (by decide) (ZNK rfl) (fun _ => .nil) ⟨_, by rw [hm, if_neg h0]; rfl, rfl⟩
  refine ZZ ?_
  have hp : pathF l b n = spanF n 1 100000 := by rw [pathF, if_neg h0]
  by_cases hn : 1 ≤ n ∧ n ≤ 100000
  · have hs : pathF l b n = 0 := by rw [hp, spanF, if_pos hn]
    refine WR ?_
    refine al_ef rfl (ef_call0 false (fun _ => outs_a n 1 100000) rfl .fn rfl (by decide) (by kernel_rfl) rfl (fun _ => C0 rfl) (by simp)) ?_
    rintro _ _ ⟨_, _, _, ⟨bb, rfl, rfl, ⟨rfl, hb⟩ | ⟨rfl, hb⟩⟩, hF, hH⟩
    rotate_left
    exact absurd hn (by omega)
    (try simp only [nsl, Nat.reduceAdd, Nat.reduceLT, Nat.reduceSub] at hF); (try simp only [nsl, Nat.reduceAdd, Nat.reduceLT, Nat.reduceSub] at hH); subst hF; subst hH
    refine WE ?_
    refine aw_cond_f rfl ?_
    refine ZZ ?_
    refine WR ?_
    refine al_ef rfl (ef_call0 false (fun _ => differences_a l v b (by omega)) rfl .fn rfl (by decide) (by kernel_rfl) rfl (fun _ => C0 rfl) (by simp)) ?_
    rintro _ _ ⟨_, _, _, ⟨vd, rfl, rfl⟩, hF, hH⟩
    (try simp only [nsl, Nat.reduceAdd, Nat.reduceLT, Nat.reduceSub] at hF); (try simp only [nsl, Nat.reduceAdd, Nat.reduceLT, Nat.reduceSub] at hH); subst hF; subst hH
    refine WE ?_
    refine WA ?_
    refine aw_if rfl (fun h1 => ?_) (fun h1 => ?_)
    · have hm : movF l b n = 8 := by rw [movF, if_neg (by omega), if_pos (by omega)]
      refine WA ?_
      exact aret_2 [] _ rfl rfl rfl rfl rfl (by decide) (ZNK rfl) (fun _ => .nil) ⟨_, by rw [hm]; rfl, rfl⟩
    · have hm : movF l b n = 0 := by rw [movF, if_neg (by omega), if_neg (by omega)]
      refine ZZ ?_
      refine WA ?_
      exact aret_2 [] _ rfl rfl rfl rfl rfl (by decide) (ZNK rfl) (fun _ => .nil) ⟨_, by rw [hm, if_pos rfl], rfl⟩
  · have hm : movF l b n = 1 := by rw [movF, hp, spanF, if_neg hn]; rfl
    refine WR ?_
    refine al_ef rfl (ef_call0 false (fun _ => outs_a n 1 100000) rfl .fn rfl (by decide) (by kernel_rfl) rfl (fun _ => C0 rfl) (by simp)) ?_
    rintro _ _ ⟨_, _, _, ⟨bb, rfl, rfl, ⟨rfl, hb⟩ | ⟨rfl, hb⟩⟩, hF, hH⟩
    exact absurd hb hn
    (try simp only [nsl, Nat.reduceAdd, Nat.reduceLT, Nat.reduceSub] at hF); (try simp only [nsl, Nat.reduceAdd, Nat.reduceLT, Nat.reduceSub] at hH); subst hF; subst hH
    refine WE ?_
    refine aw_cond_t rfl ?_
    refine WA ?_
    exact aret_2 [] _ rfl rfl rfl rfl rfl (by decide) (ZNK rfl) (fun _ => .nil) ⟨_, by rw [hm]; rfl, rfl⟩
def legPt (n : Int) (p : Pt) : Leg := ⟨max (max p.x (-p.x)) (max p.y (-p.y)), n⟩
def legsPt (l : List Pt) (b : Bool) (n : Int) : List Leg := (difs l b).map (legPt n)
theorem dist0 (p : Pt) : distF p ⟨0, 0⟩ = max (max p.x (-p.x)) (max p.y (-p.y)) := by simp [distF]
theorem take_map1 {α β : Type} (f : α → β) {l : List α} {k : Nat} {x : α} (h : l[k]? = some x) : (l.take (k + 1)).map f = (l.take k).map f ++ [f x] := by
  rw [take_nextk h, List.map_append]; rfl
theorem legs_a (l : List Pt) (v : Value) (b : Bool) (n : Int) : ACalls Try.prog 70 [pth v l b, .c (I n)] [] fun u H => ∃ v', u = .t [.c (legs_r v' (if movF l b n = 0 then legsPt l b n else [])), .c (I (movF l b n))] ∧ H = [] := by
  refine acalls_of (N := 36) Try.func70 rfl rfl (by simp) fun E hE => ?_
  refine WA ?_
  refine WR ?_
  refine al_ef rfl (ef_call0 false (fun _ => moves_a l v b n) rfl .fn rfl (by decide) (by kernel_rfl) rfl (fun _ => C0 rfl) (by simp)) ?_
  rintro _ _ ⟨_, _, _, ⟨vd, rfl, rfl⟩, hF, hH⟩
  (try simp only [nsl, Nat.reduceAdd, Nat.reduceLT, Nat.reduceSub] at hF); (try simp only [nsl, Nat.reduceAdd, Nat.reduceLT, Nat.reduceSub] at hH); subst hF; subst hH
  refine WE ?_
  refine WA ?_
  refine aw_if rfl (fun h0 => ?_) (fun h0 => ?_)
  · refine WA ?_
    exact aret_2 [] _ rfl rfl rfl rfl rfl (by decide) (ZNK rfl) (fun _ => .nil) ⟨_, by rw [if_neg h0]; rfl, rfl⟩
  have hm : movF l b n = 0 := by omega
  rw [hm]
  simp only [if_true]
  obtain ⟨hp, hdl⟩ := movF_ok hm
  obtain ⟨d1, d2⟩ := difs_ok (pathF_ok hp).1
  have hld : legsPt l b n = (difs l b).map (legPt n) := rfl
  obtain ⟨D, hD⟩ : ∃ D, D = difs l b := ⟨_, rfl⟩
  rw [hld]
  rw [← hD] at d1 d2 ⊢
  have e2 : (D.map Pt.row).length = D.length := by simp
  refine ZZ ?_
  refine WA ?_
  refine WA ?_
  refine aw_loopw (fun m F H => ∃ (k c : Nat) (o : List Leg), m + k = D.length ∧ o = (D.take k).map (legPt n) ∧ F = [(1, .c (I n)), (8, .o 0 0 o.length c), (20, .c (pts_r vd D)), (21, .c (I (D.map Pt.row).length)), (22, .c (I k))] ∧ H = [.arr 64 2 c (o.map Leg.row)]) ?_ ?_
  · refine wk_of [none] (fun _ => [(1, .c (I n)), (8, .o 0 0 ([] : List Leg).length 0), (20, .c (pts_r vd D)), (21, .c (I (D.map Pt.row).length)), (22, .c (I (0 : Nat)))]) (fun _ => [.arr 64 2 0 (([] : List Leg).map Leg.row)]) (by decide) (ZNL hE) ZCF ZCH (fun _ => ?_)
    exact ⟨D.length, 0, 0, [], by omega, rfl, rfl, rfl⟩
  rintro m F H ⟨k, c, o, hk, ho, rfl, rfl⟩
  have hol : o.length ≤ k := by rw [ho]; simp; omega
  refine WA ?_
  refine aw_if rfl (fun hlt => ?_) (fun hge => ?_)
  · obtain ⟨x, hx⟩ : ∃ x, D[k]? = some x := ⟨_, List.getElem?_eq_getElem (by omega)⟩
    have hrx : (D.map Pt.row)[k]? = some [I x.x, I x.y] := by rw [List.getElem?_map, hx]; rfl
    obtain ⟨hxb, -⟩ := d2 x (List.mem_of_getElem? hx)
    refine WA ?_
    refine WR ?_
    refine al_ef rfl (ef_call0 false (fun _ => dist_a x ⟨0, 0⟩ (by omega) (by omega) (by simp) (by simp)) rfl .fn rfl (by decide) (by kernel_rfl) rfl (fun _ => C0 rfl) (by simp)) ?_
    rintro _ _ ⟨_, _, _, ⟨rfl, rfl⟩, hF, hH⟩
    rw [dist0] at hF
    (try simp only [nsl, Nat.reduceAdd, Nat.reduceLT, Nat.reduceSub] at hF); (try simp only [nsl, Nat.reduceAdd, Nat.reduceLT, Nat.reduceSub] at hH); subst hF; subst hH
    refine WO ?_
    refine al_ef rfl (Zapp (KA (t := 54) rfl)) ?_
    rintro _ _ ⟨_, cc, hcc, rfl, rfl⟩
    refine WE ?_
    refine WA ?_
    refine wk_of [some 0] (fun _ => [(1, .c (I n)), (8, .o 0 0 (o ++ [legPt n x]).length cc), (20, .c (pts_r vd D)), (21, .c (I (D.map Pt.row).length)), (22, .c (I (k + 1 : Nat)))]) (fun _ => _) (by decide) (ZNL hE) ZCF ZCH (fun _ => ?_)
    exact ⟨m - 1, by omega, k + 1, cc, o ++ [legPt n x], by omega, by rw [take_map1 _ hx, ho], rfl, by rw [List.map_append]; rfl⟩
  obtain rfl : k = D.length := by omega
  rw [List.take_length] at ho
  subst ho
  refine ZZ ?_
  refine WA ?_
  exact aret_f2 [] [] rfl rfl rfl rfl rfl rfl (by rw [List.drop_zero, List.take_of_length_le (by simp)]) (by simp) (by decide) (by decide) (ZNK rfl) (fun _ => .nil) (fun v' => ⟨v', rfl, rfl⟩)
theorem legsof_a (l : List Pt) (v : Value) (b : Bool) (n : Int) (hf : ptsF l b = 0) : ACalls Try.prog 76 [pth v l b, .c (I n)] [] fun u H => ∃ v', u = .t [.c (legs_r v' (legsPt l b n)), .c (I (if (difs l b).length = 0 then 8 else 0))] ∧ H = [] := by
  obtain ⟨d1, d2⟩ := difs_ok hf
  refine acalls_of (N := 33) Try.func76 rfl rfl (by simp) fun E hE => ?_
  refine WA ?_
  refine WA ?_
  have hld : legsPt l b n = (difs l b).map (legPt n) := rfl
  rw [hld]
  refine WR ?_
  refine al_ef rfl (ef_call0 false (fun _ => vectors_a l v b hf) rfl .fn rfl (by decide) (by kernel_rfl) rfl (fun _ => C0 rfl) (by simp)) ?_
  rintro _ _ ⟨_, _, _, ⟨vd, rfl, rfl⟩, hF, hH⟩
  (try simp only [nsl, Nat.reduceAdd, Nat.reduceLT, Nat.reduceSub] at hF); (try simp only [nsl, Nat.reduceAdd, Nat.reduceLT, Nat.reduceSub] at hH); subst hF; subst hH
  refine WE ?_
  obtain ⟨D, hD⟩ : ∃ D, D = difs l b := ⟨_, rfl⟩
  rw [← hD] at d1 d2 ⊢
  have e2 : (D.map Pt.row).length = D.length := by simp
  refine aw_loopw (fun m F H => ∃ (k c : Nat) (o : List Leg), m + k = D.length ∧ o = (D.take k).map (legPt n) ∧ F = [(1, .c (I n)), (6, .o 0 0 o.length c), (10, .c (pts_r vd D)), (11, .c (I (D.map Pt.row).length)), (12, .c (I k))] ∧ H = [.arr 64 2 c (o.map Leg.row)]) ?_ ?_
  · refine wk_of [none] (fun _ => [(1, .c (I n)), (6, .o 0 0 ([] : List Leg).length 0), (10, .c (pts_r vd D)), (11, .c (I (D.map Pt.row).length)), (12, .c (I (0 : Nat)))]) (fun _ => [.arr 64 2 0 (([] : List Leg).map Leg.row)]) (by decide) (ZNL hE) ZCF ZCH (fun _ => ?_)
    exact ⟨D.length, 0, 0, [], by omega, rfl, rfl, rfl⟩
  rintro m F H ⟨k, c, o, hk, ho, rfl, rfl⟩
  have hol : o.length = k := by rw [ho]; simp; omega
  refine WA ?_
  refine aw_if rfl (fun hlt => ?_) (fun hge => ?_)
  · obtain ⟨x, hx⟩ : ∃ x, D[k]? = some x := ⟨_, List.getElem?_eq_getElem (by omega)⟩
    have hrx : (D.map Pt.row)[k]? = some [I x.x, I x.y] := by rw [List.getElem?_map, hx]; rfl
    obtain ⟨hxb, -⟩ := d2 x (List.mem_of_getElem? hx)
    refine WA ?_
    refine ZZ ?_
    refine aw_regionT [(0, none), (1, none), (2, none), (4, none), (5, none), (8, none), (3, some [0, 4, 5, 8]), (6, some [0, 8]), (7, none), (9, none), (10, some [0]), (11, some []), (12, none)] hMixed (by kernel_rfl) ?_
    refine WP ?_
    refine at_ef rfl rfl (ef_call0 false (fun _ => abs2_a x.x (by omega)) rfl .fn rfl (by decide) (by kernel_rfl) rfl (fun _ => C0 rfl) (by simp)) ?_
    rintro _ _ ⟨_, _, _, ⟨rfl, rfl⟩, hF, hH⟩
    (try simp only [nsl, Nat.reduceAdd, Nat.reduceLT, Nat.reduceSub] at hF); (try simp only [nsl, Nat.reduceAdd, Nat.reduceLT, Nat.reduceSub] at hH); subst hF; subst hH
    refine ⟨ag_cons (by first | exact ag_rd rfl rfl rfl (rd_move rfl rfl) rfl) (ag_cons (by first | exact ag_rd rfl rfl rfl (ZX (KF (t := 145) (f := 1) rfl rfl)) rfl) (ag_cons (by first | exact ag_rd rfl rfl rfl (ZL (KK (t := 3) rfl)) rfl) (ag_cons (by first | exact ag_rd rfl rfl rfl (rd_move rfl rfl) rfl) (ag_none)))), ?_⟩
    refine at_ef rfl rfl (ef_call0 false (fun _ => abs2_a x.y (by omega)) rfl .fn rfl (by decide) (by kernel_rfl) rfl (fun _ => C0 rfl) (by simp)) ?_
    rintro _ _ ⟨_, _, _, ⟨rfl, rfl⟩, hF, hH⟩
    (try simp only [nsl, Nat.reduceAdd, Nat.reduceLT, Nat.reduceSub] at hF); (try simp only [nsl, Nat.reduceAdd, Nat.reduceLT, Nat.reduceSub] at hH); subst hF; subst hH
    refine ⟨ag_cons (by first | exact ag_rd rfl rfl rfl (rd_move rfl rfl) rfl) (ag_cons (by first | exact ag_rd rfl rfl rfl (rd_move rfl rfl) rfl) (ag_none)), ?_⟩
    refine WP ?_
    refine at_ef rfl rfl (Zapp (KA (t := 54) rfl)) ?_
    rintro _ _ ⟨_, cc, hcc, rfl, rfl⟩
    refine ⟨ag_none, ?_⟩
    refine WQ ?_
    refine WA ?_
    refine wk_of [some 0] (fun _ => [(1, .c (I n)), (6, .o 0 0 (o ++ [legPt n x]).length cc), (10, .c (pts_r vd D)), (11, .c (I (D.map Pt.row).length)), (12, .c (I (k + 1 : Nat)))]) (fun _ => _) (by decide) (ZNL hE) ZCF ZCH (fun _ => ?_)
    exact ⟨m - 1, by omega, k + 1, cc, o ++ [legPt n x], by omega, by rw [take_map1 _ hx, ho], rfl, by rw [List.map_append]; rfl⟩
  obtain rfl : k = D.length := by omega
  rw [List.take_length] at ho
  refine ZZ ?_
  refine WA ?_
  refine aw_if rfl (fun h1 => ?_) (fun h1 => ?_)
  · have hD0 : D = [] := List.eq_nil_of_length_eq_zero (by omega)
    refine WA ?_
    exact aret_2 [] _ rfl rfl rfl rfl rfl (by decide) (ZNK rfl) (fun _ => .nil) ⟨_, by rw [hD0]; rfl, rfl⟩
  · subst ho
    refine ZZ ?_
    refine WA ?_
    exact aret_f2 [] [] rfl rfl rfl rfl rfl rfl (by rw [List.drop_zero, List.take_of_length_le (by simp)]) (by simp) (by decide) (by decide) (ZNK rfl) (fun _ => .nil) (fun v' => ⟨v', by rw [if_neg (by omega)], rfl⟩)
end Go.Proofs.Ytpbedckdnoogpaa
