/- Guarded effects of drawn regions. -/
import Derived.Test.YthanangkmjjbaaaGreatDoorQbc
import Derived.Test.YthanangkmjjbaaaGreatDoorQap
import Derived.Test.YthanangkmjjbaaaGreatDoorQan
set_option linter.unusedSimpArgs false
set_option linter.unusedVariables false
/- Rounding, twice the area of a ring, and rings of contours, by value. -/
-- NEWM
namespace Go.Proofs.YthanangkmjjbaaaGreatDoor
open Go Go.RowKit
set_option maxRecDepth 100000
section
variable {P : Program} {N : Nat} {E : Env} {F : Fm} {H : List OB} {o : Oper} {t yt : TypeId} {x y : Operand} {m n z : Int}
theorem rd_quoY (ho : o.op = .binOp .quo t x y yt) (hx : ev F x = some (.c (.s (.int .i64 m)))) (hy : ev F y = some (.c (.s (.int .i64 n)))) (h0 : n ≠ 0) (hz : wrap64 (m.tdiv n) = z) : Rd P N E o F H (.c (.s (.int .i64 z))) := by
  subst hz; exact rd_quo ho hx hy h0
theorem rd_remY (ho : o.op = .binOp .rem t x y yt) (hx : ev F x = some (.c (.s (.int .i64 m)))) (hy : ev F y = some (.c (.s (.int .i64 n)))) (h0 : n ≠ 0) (hz : m.tmod n = z) : Rd P N E o F H (.c (.s (.int .i64 z))) := by
  subst hz; exact rd_rem ho hx hy h0
end
theorem floor_q (x b : Int) (h2 : 1 ≤ b) : (x.tmod b < 0 → x / b = x.tdiv b - 1) ∧ (0 ≤ x.tmod b → x / b = x.tdiv b) := by
  have hd := Int.mul_tdiv_add_tmod x b
  have h1 : (x.tmod b).natAbs < b.natAbs := by rw [Int.natAbs_tmod]; exact Nat.mod_lt _ (by omega)
  constructor
  · intro h
    refine ((Int.ediv_emod_unique (a := x) (r := x.tmod b + b) (show 0 < b by omega)).2 ⟨?_, by omega, by omega⟩).1
    rw [Int.mul_sub]; omega
  · intro h
    refine ((Int.ediv_emod_unique (a := x) (r := x.tmod b) (show 0 < b by omega)).2 ⟨?_, by omega, by omega⟩).1
    omega
theorem kflo_v (x b : Int) (h0 : -9000000000000000000 ≤ x ∧ x ≤ 9000000000000000000) (h2 : 1 ≤ b ∧ b ≤ 9000000000000000000) : ACalls Tryz.prog 129 [.c (I x), .c (I b)] [] fun u H => u = .c (I (x / b)) ∧ H = [] := by
  have hq : (x.tdiv b).natAbs ≤ x.natAbs := Int.natAbs_tdiv_le_natAbs x b
  have e1 : wrap64 (x.tdiv b) = x.tdiv b := IntWalk.wrap64_in _ (by constructor <;> omega)
  obtain ⟨e3, e4⟩ := floor_q x b h2.1
  refine acalls_of (N := 16) Tryz.func129 rfl rfl (by simp) fun E hE => ?_
  refine WA ?_
  refine ZR ?_
  iterate 2 refine WX1 ?_
  refine ZA (rd_quoY (z := x.tdiv b) rfl rfl rfl (by omega) e1) ?_
  refine WE ?_
  refine ZR ?_
  iterate 2 refine WX1 ?_
  refine ZA (rd_remY (z := x.tmod b) rfl rfl rfl (by omega) rfl) ?_
  refine WE ?_
  refine aw_if rfl (fun hlt => ?_) (fun hge => ?_)
  · refine WA ?_
    refine WA ?_
    exact aret_1 [] _ rfl rfl rfl (by decide) (ZNK rfl) (fun _ => .nil) ⟨by rw [e3 hlt], rfl⟩
  · refine ZZ ?_
    refine WA ?_
    exact aret_1 [] _ rfl rfl rfl (by decide) (ZNK rfl) (fun _ => .nil) ⟨by rw [e4 (by omega)], rfl⟩
theorem rnd_v (f : Fra) (h1 : -1000000000000000 ≤ f.n ∧ f.n ≤ 1000000000000000) (h2 : 1 ≤ f.d ∧ f.d ≤ 1000000000000000) : ACalls Tryz.prog 153 [.a [.c (I f.n), .c (I f.d)]] [] fun u H => u = .c (I (nearF f)) ∧ H = [] := by
  obtain ⟨n, d⟩ := f
  simp only at h1 h2
  refine acalls_of (N := 13) Tryz.func153 rfl rfl (by simp) fun E hE => ?_
  refine WA ?_
  refine WR ?_
  refine al_ef rfl (ef_call0 false (fun _ => kflo_v (2 * n + d) (2 * d) (by omega) (by omega)) rfl .fn rfl (by decide) (by kernel_rfl) rfl (fun _ => C0 rfl) (by simp)) ?_
  rintro _ _ ⟨_, _, _, ⟨rfl, rfl⟩, hF, hH⟩
  (try simp only [nsl, Nat.reduceAdd, Nat.reduceLT, Nat.reduceSub] at hF); (try simp only [nsl, Nat.reduceAdd, Nat.reduceLT, Nat.reduceSub] at hH); subst hF; subst hH
  refine WE ?_
  exact aret_1 [] _ rfl rfl rfl (by decide) (ZNK rfl) (fun _ => .nil) ⟨rfl, rfl⟩
abbrev P2.row (p : P2) : List CV := [I p.x, I p.y]
abbrev pR (l : List P2) : List (List CV) := l.map P2.row
theorem prow {l : List P2} {i : Nat} (h : i < l.length) : (pR l)[i]? = some [I (ptA l i).x, I (ptA l i).y] := by
  rw [List.getElem?_map, ptA_get h]; rfl
set_option maxHeartbeats 2000000 in
theorem pdbl_v (l : List P2) (v : Value) (hl : l.length ≤ 1000000) (hp : ∀ p ∈ l, p.in) : ACalls Tryz.prog 55 [.c (.r v (pR l))] [] fun u H => u = .c (I (dblF l)) ∧ H = [] := by
  have e1 : (pR l).length = l.length := by simp
  refine acalls_of (N := 37) Tryz.func55 rfl rfl (by simp) fun E hE => ?_
  refine WA ?_
  refine WA ?_
  refine WA ?_
  refine aw_loopw (fun m F H => ∃ (k : Nat), m + k = l.length ∧ F = [(0, .c (.r v (pR l))), (3, .c (I (dblN l k))), (7, .c (.r v (pR l))), (8, .c (I (pR l).length)), (9, .c (I k))] ∧ H = []) ?_ ?_
  · refine wk_of [] (fun _ => [(0, .c (.r v (pR l))), (3, .c (I 0)), (7, .c (.r v (pR l))), (8, .c (I (pR l).length)), (9, .c (I (0 : Nat)))]) (fun _ => _) (by decide) (ZNL hE) ZCF (fun _ => .nil) (fun _ => ?_)
    exact ⟨l.length, 0, by omega, rfl, rfl⟩
  rintro m F H ⟨k, hk, rfl, rfl⟩
  refine WA ?_
  refine aw_if rfl (fun hlt => ?_) (fun hge => ?_)
  · have hkl : k < l.length := by omega
    have hj : (k + 1) % l.length < l.length := Nat.mod_lt _ (by omega)
    have hn : dblN l (k + 1) = dblN l k + crP (ptA l k) (ptA l ((k + 1) % l.length)) := rfl
    have hb := dblN_in hp k (by omega)
    have hb2 := dblN_in hp (k + 1) (by omega)
    have pk := ptA_in hp hkl
    have pj := ptA_in hp hj
    have hc := crP_in pk pj
    have rk := prow hkl
    have rj := prow hj
    rw [hn] at hb2
    generalize dblN l k = D at hn hb hb2 ⊢
    have hmz : (((k : Int) + 1) % (l.length : Int)) = ((k + 1) % l.length : Nat) := by simp
    generalize (k + 1) % l.length = j at *
    generalize ptA l k = a at *
    generalize ptA l j = b at *
    obtain ⟨ax, ay⟩ := a
    obtain ⟨bx, by'⟩ := b
    simp only [crP, P2.in] at *
    refine ZR ?_
    refine WX1 ?_
    refine ZA (rd_indexq (i := k) rfl (KE (t := 45) rfl) rfl rfl rfl rk rfl) ?_
    refine WE ?_
    refine ZR ?_
    iterate 5 refine WX1 ?_
    refine ZA (rd_remY (z := (j : Int)) rfl rfl rfl (by omega) (by rw [Int.tmod_eq_emod_of_nonneg (by omega)]; simpa using hmz)) ?_
    refine WE ?_
    refine WA ?_
    refine WA ?_
    refine wk_of [] (fun _ => [(0, .c (.r v (pR l))), (3, .c (I (D + (ax * by' - ay * bx)))), (7, .c (.r v (pR l))), (8, .c (I (pR l).length)), (9, .c (I (k + 1 : Nat)))]) (fun _ => []) (by decide) (ZNL hE) ZCF (fun _ => .nil) (fun _ => ?_)
    exact ⟨m - 1, by omega, k + 1, by omega, by rw [hn], rfl⟩
  obtain rfl : k = l.length := by omega
  refine ZZ ?_
  refine WA ?_
  exact aret_1 [] _ rfl rfl rfl (by decide) (ZNK rfl) (fun _ => .nil) ⟨rfl, rfl⟩
end Go.Proofs.YthanangkmjjbaaaGreatDoor

/- The ring of a contour, by value. -/
-- NEWM
namespace Go.Proofs.YthanangkmjjbaaaGreatDoor
open Go Go.RowKit
set_option maxRecDepth 100000
/- ## Plain -/
theorem compG_last {α : Type} [DecidableEq α] : ∀ l : List α, (compG l).getLast? = l.getLast?
  | [] => rfl
  | [_] => rfl
  | x :: y :: l => by
    have ih := compG_last (y :: l)
    unfold compG
    split
    · rw [ih]; simp
    · cases h : compG (y :: l) with
      | nil =>
        rw [h] at ih
        exact absurd ih.symm (by rw [show ([] : List α).getLast? = none from rfl, List.getLast?_eq_none_iff]; simp)
      | cons a t => rw [h] at ih; rw [List.getLast?_cons_cons, ih]; simp
theorem compG_push {α : Type} [DecidableEq α] (L : List α) (p : α) : compG (L ++ [p]) = if (compG L).getLast? = some p then compG L else compG L ++ [p] := by
  cases h : L.getLast? with
  | none =>
    rw [List.getLast?_eq_none_iff] at h
    subst h
    simp [compG]
  | some y =>
    rw [compG_snoc h, compG_last, h]
    simp
theorem trimE_go {A : List P2} {n : Nat} {a b : P2} (hn : n ≤ A.length) (h1 : 1 < n) (ha : A[n - 1]? = some a) (hb : A[0]? = some b) : trimE (A.take n) = if a = b then trimE (A.take (n - 1)) else A.take n := by
  have hl : (A.take n).length = n := by rw [List.length_take]; omega
  have e1 : (A.take n).getLast? = some a := by
    rw [List.getLast?_eq_getElem?, hl, List.getElem?_take, if_pos (by omega)]; exact ha
  have e2 : (A.take n).head? = some b := by
    rw [List.head?_eq_getElem?, List.getElem?_take, if_pos (by omega)]; exact hb
  split
  · rename_i e
    rw [trimE_step (by omega) (by rw [e1, e2, e]), List.dropLast_eq_take, hl, List.take_take]
    congr 2; omega
  · rename_i e
    refine trimE_stop fun h => e ?_
    have := h.2
    rw [e1, e2] at this
    injection this
theorem p2_eq (a b : P2) : a = b ↔ (a.x = b.x ∧ a.y = b.y) := by
  obtain ⟨x, y⟩ := a
  obtain ⟨z, w⟩ := b
  simp
/- ## The walk -/
abbrev mB (v w : Value) (V : List Vec3) (Fs : List Fac3) : OB := mBox v w V (fR Fs)
set_option maxHeartbeats 8000000 in
theorem ringof_v (v w pv : Value) (V : List Vec3) (Fs : List Fac3) (z : Int) (ps : List Sid2) (pb : Bool) (hM : MOk V Fs) (hz : -100000 ≤ z ∧ z ≤ 100000) (hl : ps.length ≤ 1000000) (hs : ∀ s ∈ ps, Cuts' V z s) : ACalls Tryz.prog 106 [mshA v w V Fs, .a [.c (.r pv (sR ps)), .c (B pb)], .c (I z)] [] fun u H => ∃ q, u = .c (.r q (pR (ringV V z ps))) ∧ H = [] := by
  have e1 : (sR ps).length = ps.length := by simp
  refine acalls_of (N := 69) Tryz.func106 rfl rfl (by simp) fun E hE => ?_
  refine WA ?_
  refine WA ?_
  refine WA ?_
  refine aw_loopw (fun m F H => ∃ (k c : Nat) (A : List P2), m + k = ps.length ∧ A.length ≤ k ∧ A.length ≤ c ∧ A = compG ((ps.take k).map (ptV V z)) ∧ F = [(2, .c (I z)), (3, .p 0 0 0), (4, .p 1 0 0), (7, .o 2 0 A.length c), (13, .c (.r pv (sR ps))), (14, .c (I (sR ps).length)), (15, .c (I k))] ∧ H = [mB v w V Fs, .box [.c (.r pv (sR ps)), .c (B pb)], .arr 47 2 c (pR A)]) ?_ ?_
  · refine wk_of [some 0, some 1, none] (fun _ => [(2, .c (I z)), (3, .p 0 0 0), (4, .p 1 0 0), (7, .o 2 0 0 0), (13, .c (.r pv (sR ps))), (14, .c (I (sR ps).length)), (15, .c (I (0 : Nat)))]) (fun _ => [mB v w V Fs, .box [.c (.r pv (sR ps)), .c (B pb)], .arr 47 2 0 []]) (by decide) (ZNL hE) ZCF ZCH (fun _ => ?_)
    exact ⟨ps.length, 0, 0, [], by omega, by simp, by simp, rfl, rfl, rfl⟩
  rintro m F H ⟨k, c, A, hk, hAk, hcap, hA, rfl, rfl⟩
  refine WA ?_
  refine aw_if rfl (fun hlt => ?_) (fun hge => ?_)
  · obtain ⟨s, hsk⟩ : ∃ s, ps[k]? = some s := ⟨_, List.getElem?_eq_getElem (by omega)⟩
    have hsc := hs s (List.mem_of_getElem? hsk)
    have hrow : (sR ps)[k]? = some [I s.f, I s.t] := by rw [List.getElem?_map, hsk]; rfl
    have hnx : compG ((ps.take (k + 1)).map (ptV V z)) = if A.getLast? = some (ptV V z s) then A else A ++ [ptV V z s] := by
      rw [take_snoc hsk, List.map_append, List.map_singleton, compG_push, ← hA]
    have hpt : ptV V z s = ⟨nearF (cutV V z s).x, nearF (cutV V z s).y⟩ := rfl
    obtain ⟨hb1, hb2⟩ := cut6_small hM hsc hz
    clear hsk hs
    obtain ⟨sf, st⟩ := s
    have hcv : (cutV V z ⟨sf, st⟩).row = [I sf, I st, I (cutV V z ⟨sf, st⟩).x.n, I (cutV V z ⟨sf, st⟩).x.d, I (cutV V z ⟨sf, st⟩).y.n, I (cutV V z ⟨sf, st⟩).y.d] := rfl
    rw [hpt] at hnx
    clear hpt
    generalize (cutV V z ⟨sf, st⟩).x = f1 at hcv hnx hb1
    generalize (cutV V z ⟨sf, st⟩).y = f2 at hcv hnx hb2
    obtain ⟨xn, xd⟩ := f1
    obtain ⟨yn, yd⟩ := f2
    simp only at hcv hb1 hb2 hrow
    refine WA ?_
    refine WR ?_
    refine al_ef rfl (ef_call0 false (fun _ => cut_p v w V Fs z ⟨sf, st⟩ hM hsc hz) rfl .fn rfl (by decide) (by kernel_rfl) rfl (fun _g => .cons (.aL (C0 rfl)) (.cons (.aL (C0 rfl)) (.cons (.c rfl) .nil))) (by simp)) ?_
    rintro _ _ ⟨_, _, _, ⟨rfl, rfl⟩, hF, hH⟩
    rw [hcv] at hF
    (try simp only [nsl, Nat.reduceAdd, Nat.reduceLT, Nat.reduceSub] at hF); (try simp only [nsl, Nat.reduceAdd, Nat.reduceLT, Nat.reduceSub] at hH); subst hF; subst hH
    refine WE ?_
    refine aw_cut (fun F H => F = [(2, .c (I z)), (3, .p 0 0 0), (4, .p 1 0 0), (7, .o 2 0 A.length c), (11, .p 3 0 0), (13, .c (.r pv (sR ps))), (14, .c (I (sR ps).length)), (15, .c (I k))] ∧ H = [mB v w V Fs, .box [.c (.r pv (sR ps)), .c (B pb)], .arr 47 2 c (pR A), .box [.c (I (nearF ⟨xn, xd⟩)), .c (I (nearF ⟨yn, yd⟩))]]) ?_ ?_ wk_aw
    · refine ZZ ?_
      refine aw_regionM [[(0, none), (1, none), (3, none), (4, none), (2, some [3, 4]), (5, some []), (6, none), (7, some [0, 1, 3, 4, 6]), (8, some [])], [(0, none), (1, none), (3, none), (4, none), (2, some [3, 4]), (7, some [0, 1, 3, 4]), (5, some []), (6, none), (8, some [])], [(0, none), (1, none), (3, none), (4, none), (7, some [0, 1, 3, 4]), (2, some [3, 4]), (5, some []), (6, none), (8, some [])]] hMixed (by kernel_rfl) ?_
      focus
        refine WM ?_
        refine am_two (by rfl) (by rfl) (by rfl) ?_ ?_
        rotate_left
        refine WM ?_
        refine am_ef (i := 2) (by rfl) (by rfl) rfl rfl (ef_call0 false (fun _ => rnd_v ⟨xn, xd⟩ (by simp only; omega) (by simp only; omega)) rfl .fn rfl (by decide) (by kernel_rfl) rfl (fun _g => .cons (.aL (C0 rfl)) .nil) (by simp)) ?_
        rintro _ _ ⟨_, _, _, ⟨rfl, rfl⟩, hF, hH⟩
        (try simp only [nsl, Nat.reduceAdd, Nat.reduceLT, Nat.reduceSub] at hF); (try simp only [nsl, Nat.reduceAdd, Nat.reduceLT, Nat.reduceSub] at hH); subst hF; subst hH
        refine ⟨AGX, ?_⟩
        refine am_ef (i := 5) (by rfl) (by rfl) rfl rfl (ef_call0 false (fun _ => rnd_v ⟨yn, yd⟩ (by simp only; omega) (by simp only; omega)) rfl .fn rfl (by decide) (by kernel_rfl) rfl (fun _g => .cons (.aL (C0 rfl)) .nil) (by simp)) ?_
        rintro _ _ ⟨_, _, _, ⟨rfl, rfl⟩, hF, hH⟩
        (try simp only [nsl, Nat.reduceAdd, Nat.reduceLT, Nat.reduceSub] at hF); (try simp only [nsl, Nat.reduceAdd, Nat.reduceLT, Nat.reduceSub] at hH); subst hF; subst hH
        refine ⟨AGX, ?_⟩
        refine WN ?_
        rotate_right
        refine am_ef (i := 2) (by rfl) (by rfl) rfl rfl (ef_call0 false (fun _ => rnd_v ⟨xn, xd⟩ (by simp only; omega) (by simp only; omega)) rfl .fn rfl (by decide) (by kernel_rfl) rfl (fun _g => .cons (.aL (C0 rfl)) .nil) (by simp)) ?_
        rintro _ _ ⟨_, _, _, ⟨rfl, rfl⟩, hF, hH⟩
        (try simp only [nsl, Nat.reduceAdd, Nat.reduceLT, Nat.reduceSub] at hF); (try simp only [nsl, Nat.reduceAdd, Nat.reduceLT, Nat.reduceSub] at hH); subst hF; subst hH
        refine ⟨AGX, ?_⟩
        refine am_two (by rfl) (by rfl) (by rfl) ?_ ?_
        rotate_left
        refine WM ?_
        refine am_ef (i := 5) (by rfl) (by rfl) rfl rfl (ef_call0 false (fun _ => rnd_v ⟨yn, yd⟩ (by simp only; omega) (by simp only; omega)) rfl .fn rfl (by decide) (by kernel_rfl) rfl (fun _g => .cons (.aL (C0 rfl)) .nil) (by simp)) ?_
        rintro _ _ ⟨_, _, _, ⟨rfl, rfl⟩, hF, hH⟩
        (try simp only [nsl, Nat.reduceAdd, Nat.reduceLT, Nat.reduceSub] at hF); (try simp only [nsl, Nat.reduceAdd, Nat.reduceLT, Nat.reduceSub] at hH); subst hF; subst hH
        refine ⟨AGX, ?_⟩
        refine WN ?_
        rotate_right
        refine am_ef (i := 5) (by rfl) (by rfl) rfl rfl (ef_call0 false (fun _ => rnd_v ⟨yn, yd⟩ (by simp only; omega) (by simp only; omega)) rfl .fn rfl (by decide) (by kernel_rfl) rfl (fun _g => .cons (.aL (C0 rfl)) .nil) (by simp)) ?_
        rintro _ _ ⟨_, _, _, ⟨rfl, rfl⟩, hF, hH⟩
        (try simp only [nsl, Nat.reduceAdd, Nat.reduceLT, Nat.reduceSub] at hF); (try simp only [nsl, Nat.reduceAdd, Nat.reduceLT, Nat.reduceSub] at hH); subst hF; subst hH
        refine ⟨AGX, ?_⟩
        refine WN ?_
      all_goals (exact wk_of [some 0, some 1, some 2, some 5] (fun _ => [(2, .c (I z)), (3, .p 0 0 0), (4, .p 1 0 0), (7, .o 2 0 A.length c), (11, .p 3 0 0), (13, .c (.r pv (sR ps))), (14, .c (I (sR ps).length)), (15, .c (I k))]) (fun _ => _) (by decide) (ZNL hE) ZCF ZCH (fun _ => ⟨rfl, rfl⟩))
    rintro F H ⟨rfl, rfl⟩
    generalize nearF ⟨xn, xd⟩ = px at hnx ⊢
    generalize nearF ⟨yn, yd⟩ = py at hnx ⊢
    clear hcv hb1 hb2 hrow
    have eA : (pR A).length = A.length := by simp
    refine ZZ ?_
    refine aw_cut (fun F H => ∃ b : Bool, (b = true ↔ A.getLast? ≠ some ⟨px, py⟩) ∧ F = [(2, .c (I z)), (3, .p 0 0 0), (4, .p 1 0 0), (7, .o 2 0 A.length c), (11, .p 3 0 0), (13, .c (.r pv (sR ps))), (14, .c (I (sR ps).length)), (15, .c (I k)), (42, .c (B b))] ∧ H = [mB v w V Fs, .box [.c (.r pv (sR ps)), .c (B pb)], .arr 47 2 c (pR A), .box [.c (I px), .c (I py)]]) ?_ ?_ wk_aw
    · by_cases hA0 : A.length = 0
      · have hA1 : A = [] := List.eq_nil_of_length_eq_zero hA0
        refine ZZ ?_
        refine aw_regionT [(0, none), (1, none), (2, none), (3, none), (4, none), (5, none), (6, none), (7, none), (8, none), (9, none), (10, none), (11, none), (12, none)] hMixed (by kernel_rfl) ?_
        iterate 8 refine WX2 ?_
        first | refine ZU rfl (rd_index (i := A.length - 1) rfl (KE (t := 45) rfl) rfl rfl rfl (by omega) (by omega)) ?_ | refine ZV ?_
        iterate 2 refine WX2 ?_
        first | refine ZU rfl (rd_neqa47 rfl rfl rfl) ?_ | refine ZV ?_
        refine WQ ?_
        all_goals (exact wk_of [some 0, some 1, some 2, some 3] (fun _ => [(2, .c (I z)), (3, .p 0 0 0), (4, .p 1 0 0), (7, .o 2 0 A.length c), (11, .p 3 0 0), (13, .c (.r pv (sR ps))), (14, .c (I (sR ps).length)), (15, .c (I k)), (42, .c (B true))]) (fun _ => _) (by decide) (ZNL hE) ZCF ZCH (fun _ => ⟨true, by simp [hA1], rfl, rfl⟩))
      · obtain ⟨a, ha⟩ : ∃ a, A[A.length - 1]? = some a := ⟨_, List.getElem?_eq_getElem (by omega)⟩
        have hgl : A.getLast? = some a := by rw [List.getLast?_eq_getElem?]; exact ha
        have hra : (pR A)[A.length - 1]? = some [I a.x, I a.y] := by rw [List.getElem?_map, ha]; rfl
        rw [hgl]
        have hpq : (some a ≠ some (⟨px, py⟩ : P2)) ↔ ¬ (a.x = px ∧ a.y = py) := by rw [ne_eq, Option.some.injEq, p2_eq]
        rw [hpq]
        clear hgl ha hpq
        obtain ⟨ax, ay⟩ := a
        simp only at hra ⊢
        refine ZZ ?_
        refine aw_regionT [(0, none), (1, none), (2, none), (3, none), (4, none), (5, none), (6, none), (7, none), (8, none), (9, none), (10, none), (11, none), (12, none)] hMixed (by kernel_rfl) ?_
        iterate 8 refine WX2 ?_
        first | refine ZU rfl (rd_index (i := A.length - 1) rfl (KE (t := 45) rfl) rfl rfl rfl (by omega) (by omega)) ?_ | refine ZV ?_
        iterate 2 refine WX2 ?_
        first | refine ZU rfl (rd_neqa47 rfl rfl rfl) ?_ | refine ZV ?_
        refine WQ ?_
        all_goals (exact wk_of [some 0, some 1, some 2, some 3] (fun _ => [(2, .c (I z)), (3, .p 0 0 0), (4, .p 1 0 0), (7, .o 2 0 A.length c), (11, .p 3 0 0), (13, .c (.r pv (sR ps))), (14, .c (I (sR ps).length)), (15, .c (I k)), (42, .c (B (decide (¬ (ax = px ∧ ay = py)))))]) (fun _ => _) (by decide) (ZNL hE) ZCF ZCH (fun _ => ⟨_, by rw [decide_eq_true_iff], rfl, rfl⟩))
    rintro F H ⟨b, hb, rfl, rfl⟩
    refine ZZ ?_
    refine aw_cond rfl (fun hbt => ?_) (fun hbf => ?_)
    · have hnx2 : compG ((ps.take (k + 1)).map (ptV V z)) = A ++ [⟨px, py⟩] := by rw [hnx, if_neg (hb.1 (by simpa using hbt))]
      refine WR ?_
      refine al_ef rfl (Zapp (KA (t := 45) rfl)) ?_
      rintro _ _ ⟨_, cc, hcc, rfl, rfl⟩
      refine WE ?_
      refine WA ?_
      all_goals (refine wk_of [some 0, some 1, some 2] (fun _ => [(2, .c (I z)), (3, .p 0 0 0), (4, .p 1 0 0), (7, .o 2 0 (A ++ [(⟨px, py⟩ : P2)]).length _), (13, .c (.r pv (sR ps))), (14, .c (I (sR ps).length)), (15, .c (I (k + 1 : Nat)))]) (fun _ => _) (by decide) (ZNL hE) ZCF ZCH (fun _ => ?_))
      all_goals (exact ⟨m - 1, by omega, k + 1, _, A ++ [⟨px, py⟩], by omega, by simp; omega, by simp; omega, hnx2.symm, rfl, by simp [pR]⟩)
    · have hnx2 : compG ((ps.take (k + 1)).map (ptV V z)) = A := by
        rw [hnx, if_pos]
        by_cases h : A.getLast? = some ⟨px, py⟩
        · exact h
        · rw [hb.2 h] at hbf; simp at hbf
      refine ZZ ?_
      refine WA ?_
      refine wk_of [some 0, some 1, some 2] (fun _ => [(2, .c (I z)), (3, .p 0 0 0), (4, .p 1 0 0), (7, .o 2 0 A.length c), (13, .c (.r pv (sR ps))), (14, .c (I (sR ps).length)), (15, .c (I (k + 1 : Nat)))]) (fun _ => _) (by decide) (ZNL hE) ZCF ZCH (fun _ => ?_)
      exact ⟨m - 1, by omega, k + 1, c, A, by omega, by omega, by omega, hnx2.symm, rfl, rfl⟩
  obtain rfl : k = ps.length := by omega
  rw [List.take_of_length_le (Nat.le_refl _)] at hA
  refine ZZ ?_
  have hR : trimE (A.take A.length) = ringV V z ps := by rw [List.take_of_length_le (Nat.le_refl _), hA]; rfl
  have eA : (pR A).length = A.length := by simp
  generalize ringV V z ps = R at hR ⊢
  refine aw_loopw (fun m F H => m ≤ A.length ∧ trimE (A.take m) = R ∧ F = [(7, .o 0 0 m c)] ∧ H = [.arr 47 2 c (pR A)]) ?_ ?_
  · refine wk_of [some 2] (fun _ => [(7, .o 0 0 A.length c)]) (fun _ => _) (by decide) (ZNL hE) ZCF ZCH (fun _ => ?_)
    exact ⟨A.length, Nat.le_refl _, hR, rfl, rfl⟩
  rintro n F H ⟨hn, hR, rfl, rfl⟩
  by_cases h1 : 1 < n
  · obtain ⟨a, ha⟩ : ∃ a, A[n - 1]? = some a := ⟨_, List.getElem?_eq_getElem (by omega)⟩
    obtain ⟨b, hb⟩ : ∃ a, A[0]? = some a := ⟨_, List.getElem?_eq_getElem (by omega)⟩
    have hra : (pR A)[n - 1]? = some [I a.x, I a.y] := by rw [List.getElem?_map, ha]; rfl
    have hrb : (pR A)[0]? = some [I b.x, I b.y] := by rw [List.getElem?_map, hb]; rfl
    have hgo := trimE_go hn h1 ha hb
    rw [hR] at hgo
    simp only [p2_eq] at hgo
    clear ha hb
    obtain ⟨ax, ay⟩ := a
    obtain ⟨bx, by'⟩ := b
    simp only at hra hrb hgo
    refine ZZ ?_
    refine aw_cut (fun F H => F = [(7, .o 0 0 n c), (62, .c (B (decide (ax = bx ∧ ay = by'))))] ∧ H = [.arr 47 2 c (pR A)]) ?_ ?_ wk_aw
    · refine ZZ ?_
      refine aw_regionT [(0, none), (1, none), (2, none), (3, none), (4, none), (5, none), (6, none), (7, none), (8, none), (9, none), (10, none), (11, none), (12, none), (13, none), (14, none)] hMixed (by kernel_rfl) ?_
      iterate 8 refine WX2 ?_
      first | refine ZU rfl (rd_index (i := n - 1) rfl (KE (t := 45) rfl) rfl rfl rfl (by omega) (by omega)) ?_ | refine ZV ?_
      iterate 2 refine WX2 ?_
      first | refine ZU rfl (rd_index (i := 0) rfl (KE (t := 45) rfl) rfl rfl rfl rfl (by omega)) ?_ | refine ZV ?_
      refine WX2 ?_
      first | refine ZU rfl (rd_eqla47 rfl rfl rfl) ?_ | refine ZV ?_
      refine WQ ?_
      all_goals (exact wk_of [some 0] (fun _ => [(7, .o 0 0 n c), (62, .c (B (decide (ax = bx ∧ ay = by'))))]) (fun _ => _) (by decide) (ZNL hE) ZCF ZCH (fun _ => ⟨rfl, rfl⟩))
    rintro F H ⟨rfl, rfl⟩
    refine ZZ ?_
    refine aw_if rfl (fun he => ?_) (fun hne => ?_)
    · rw [if_pos he] at hgo
      refine ZR ?_
      iterate 4 refine WX1 ?_
      refine ZA (rd_slice (l := 0) (h := n - 1) rfl (KE (t := 45) rfl) rfl rfl (.inl ⟨rfl, rfl⟩) (.inr ⟨_, _, _, rfl, rfl, by omega⟩) (by omega) (by omega) (by omega)) ?_
      refine WE ?_
      refine wk_of [some 0] (fun _ => [(7, .o 0 0 (n - 1) c)]) (fun _ => _) (by decide) (ZNL hE) ZCF ZCH (fun _ => ?_)
      exact ⟨n - 1, by omega, by omega, hgo.symm, rfl, rfl⟩
    · rw [if_neg hne] at hgo
      refine ZZ ?_
      refine WA ?_
      exact aret_f1 [] _ rfl rfl rfl rfl (by rw [List.drop_zero, ← List.map_take]) (by simp; omega) rfl (by decide) (ZNK rfl) (fun _ => .nil) (fun q => ⟨q, by rw [hgo], rfl⟩)
  · have hst : A.take n = R := by rw [← hR, trimE_stop]; rw [List.length_take]; omega
    refine ZZ ?_
    refine aw_cut (fun F H => F = [(7, .o 0 0 n c), (62, .c (B false))] ∧ H = [.arr 47 2 c (pR A)]) ?_ ?_ wk_aw
    · refine ZZ ?_
      refine aw_regionT [(0, none), (1, none), (2, none), (3, none), (4, none), (5, none), (6, none), (7, none), (8, none), (9, none), (10, none), (11, none), (12, none), (13, none), (14, none)] hMixed (by kernel_rfl) ?_
      iterate 8 refine WX2 ?_
      first | refine ZU rfl (rd_index (i := n - 1) rfl (KE (t := 45) rfl) rfl rfl rfl (by omega) (by omega)) ?_ | refine ZV ?_
      iterate 2 refine WX2 ?_
      first | refine ZU rfl (rd_index (i := 0) rfl (KE (t := 45) rfl) rfl rfl rfl rfl (by omega)) ?_ | refine ZV ?_
      refine WX2 ?_
      first | refine ZU rfl (rd_eqla47 rfl rfl rfl) ?_ | refine ZV ?_
      refine WQ ?_
      all_goals (exact wk_of [some 0] (fun _ => [(7, .o 0 0 n c), (62, .c (B false))]) (fun _ => _) (by decide) (ZNL hE) ZCF ZCH (fun _ => ⟨rfl, rfl⟩))
    rintro F H ⟨rfl, rfl⟩
    refine ZZ ?_
    refine aw_cond_f rfl ?_
    refine ZZ ?_
    refine WA ?_
    exact aret_f1 [] _ rfl rfl rfl rfl (by rw [List.drop_zero, ← List.map_take]) (by simp; omega) rfl (by decide) (ZNK rfl) (fun _ => .nil) (fun q => ⟨q, by rw [hst], rfl⟩)
end Go.Proofs.YthanangkmjjbaaaGreatDoor

/- Ways of regions: turns, ways that meet, ways that fold back, by value. -/
-- NEWM
namespace Go.Proofs.YthanangkmjjbaaaGreatDoor
open Go Go.RowKit
set_option maxRecDepth 100000
def trn (a b c : P2) : Int := (b.x - a.x) * (c.y - a.y) - (b.y - a.y) * (c.x - a.x)
def apaB (a b c d : Int) : Bool := decide (max a b < min c d) || decide (max c d < min a b)
def acrB (m n : Int) : Bool := decide (min m n ≤ 0) && decide (0 ≤ max m n)
def metB (a b c d : P2) : Bool := !(apaB a.x b.x c.x d.x || apaB a.y b.y c.y d.y) && (acrB (trn a b c) (trn a b d) && acrB (trn c d a) (trn c d b))
def fldB (o a b : P2) : Bool := decide (trn o a b = 0) && decide (0 < (a.x - o.x) * (b.x - o.x) + (a.y - o.y) * (b.y - o.y))
theorem pro_in {x y : Int} (hx : -200000 ≤ x ∧ x ≤ 200000) (hy : -200000 ≤ y ∧ y ≤ 200000) : -40000000000 ≤ x * y ∧ x * y ≤ 40000000000 := by
  have h : (x * y).natAbs ≤ 200000 * 200000 := by rw [Int.natAbs_mul]; exact Nat.mul_le_mul (by omega) (by omega)
  omega
theorem turn_v (a b c : P2) (ha : a.in) (hb : b.in) (hc : c.in) : ACalls Tryz.prog 208 [.a [.c (I a.x), .c (I a.y)], .a [.c (I b.x), .c (I b.y)], .a [.c (I c.x), .c (I c.y)]] [] fun u H => u = .c (I (trn a b c)) ∧ H = [] := by
  obtain ⟨ax, ay⟩ := a
  obtain ⟨bx, by'⟩ := b
  obtain ⟨cx, cy⟩ := c
  simp only [P2.in] at ha hb hc
  have p1 := pro_in (x := bx - ax) (y := cy - ay) (by omega) (by omega)
  have p2 := pro_in (x := by' - ay) (y := cx - ax) (by omega) (by omega)
  simp only [trn]
  refine acalls_of (N := 30) Tryz.func208 rfl rfl (by simp) fun E hE => ?_
  refine WA ?_
  refine WA ?_
  exact aret_1 [] _ rfl rfl rfl (by decide) (ZNK rfl) (fun _ => .nil) ⟨rfl, rfl⟩
theorem apart_v (a b c d : Int) : ACalls Tryz.prog 206 [.c (I a), .c (I b), .c (I c), .c (I d)] [] fun u H => u = .c (B (apaB a b c d)) ∧ H = [] := by
  refine acalls_of (N := 25) Tryz.func206 rfl rfl (by simp) fun E hE => ?_
  by_cases h : max a b < min c d
  · have e : apaB a b c d = true := by simp [apaB, h]
    rw [e]
    refine WA ?_
    refine WA ?_
    exact aret_1 [] _ rfl rfl rfl (by decide) (ZNK rfl) (fun _ => .nil) ⟨rfl, rfl⟩
  · have e : apaB a b c d = decide (max c d < min a b) := by simp [apaB, h]
    rw [e]
    refine WA ?_
    refine WA ?_
    exact aret_1 [] _ rfl rfl rfl (by decide) (ZNK rfl) (fun _ => .nil) ⟨rfl, rfl⟩
theorem acr_v (m n : Int) : ACalls Tryz.prog 207 [.c (I m), .c (I n)] [] fun u H => u = .c (B (acrB m n)) ∧ H = [] := by
  refine acalls_of (N := 15) Tryz.func207 rfl rfl (by simp) fun E hE => ?_
  by_cases h : min m n ≤ 0
  · have e : acrB m n = decide (0 ≤ max m n) := by simp [acrB, h]
    rw [e]
    refine WA ?_
    refine WA ?_
    exact aret_1 [] _ rfl rfl rfl (by decide) (ZNK rfl) (fun _ => .nil) ⟨rfl, rfl⟩
  · have e : acrB m n = false := by simp [acrB, h]
    rw [e]
    refine WA ?_
    refine WA ?_
    exact aret_1 [] _ rfl rfl rfl (by decide) (ZNK rfl) (fun _ => .nil) ⟨rfl, rfl⟩
theorem folds_v (o a b : P2) (ho : o.in) (ha : a.in) (hb : b.in) : ACalls Tryz.prog 242 [.a [.c (I o.x), .c (I o.y)], .a [.c (I a.x), .c (I a.y)], .a [.c (I b.x), .c (I b.y)]] [] fun u H => u = .c (B (fldB o a b)) ∧ H = [] := by
  have ho2 := ho; have ha2 := ha; have hb2 := hb
  simp only [P2.in] at ho2 ha2 hb2
  have p1 := pro_in (x := a.x - o.x) (y := b.x - o.x) (by omega) (by omega)
  have p2 := pro_in (x := a.y - o.y) (y := b.y - o.y) (by omega) (by omega)
  refine acalls_of (N := 38) Tryz.func242 rfl rfl (by simp) fun E hE => ?_
  by_cases h : trn o a b = 0
  · have e : fldB o a b = decide (0 < (a.x - o.x) * (b.x - o.x) + (a.y - o.y) * (b.y - o.y)) := by simp [fldB, h]
    rw [e]
    refine WA ?_
    refine WR ?_
    refine al_ef rfl (ef_call0 false (fun _ => turn_v o a b ho ha hb) rfl .fn rfl (by decide) (by kernel_rfl) rfl (fun _g => .cons (.aL (C0 rfl)) (.cons (.aL (C0 rfl)) (.cons (.aL (C0 rfl)) .nil))) (by simp)) ?_
    rintro _ _ ⟨_, _, _, ⟨rfl, rfl⟩, hF, hH⟩
    (try simp only [nsl, Nat.reduceAdd, Nat.reduceLT, Nat.reduceSub] at hF); (try simp only [nsl, Nat.reduceAdd, Nat.reduceLT, Nat.reduceSub] at hH); subst hF; subst hH
    refine WE ?_
    exact aret_1 [] _ rfl rfl rfl (by decide) (ZNK rfl) (fun _ => .nil) ⟨rfl, rfl⟩
  · have e : fldB o a b = false := by simp [fldB, h]
    rw [e]
    refine WA ?_
    refine WR ?_
    refine al_ef rfl (ef_call0 false (fun _ => turn_v o a b ho ha hb) rfl .fn rfl (by decide) (by kernel_rfl) rfl (fun _g => .cons (.aL (C0 rfl)) (.cons (.aL (C0 rfl)) (.cons (.aL (C0 rfl)) .nil))) (by simp)) ?_
    rintro _ _ ⟨_, _, _, ⟨rfl, rfl⟩, hF, hH⟩
    (try simp only [nsl, Nat.reduceAdd, Nat.reduceLT, Nat.reduceSub] at hF); (try simp only [nsl, Nat.reduceAdd, Nat.reduceLT, Nat.reduceSub] at hH); subst hF; subst hH
    refine WE ?_
    exact aret_1 [] _ rfl rfl rfl (by decide) (ZNK rfl) (fun _ => .nil) ⟨rfl, rfl⟩
end Go.Proofs.YthanangkmjjbaaaGreatDoor

/- Guarded effects of drawn regions. -/
namespace Go.Proofs.YthanangkmjjbaaaGreatDoor
open Go Go.RowKit
section
variable {P : Program} {N : Nat} {E : Env} {F : Fm} {H : List OB} {o : Oper} {Q : Exit → Fm → List OB → Prop} {ops : Array Oper} {i : Nat} {L : List (Nat × Option (List Nat))}
theorem wanted_no {S : Nat → Prop} {ρ : List (Option Nat)} {a : Act} {w : World} (h : gd ops o F = some false) (hR : R N E S ρ F H a w) : Region.wanted o (yielded ops a.tmps) = false := by
  obtain ⟨j, b, oj, t, h1, h2, h3, ⟨b', h4, h5⟩ | ⟨h4, _⟩⟩ := gd_of h
  · simp only [Region.wanted, h1, yielded_of hR h2 h3 h4]
    cases b <;> cases b' <;> simp_all
  · simp [Region.wanted, h1, skipped_of hR h2 h3 h4]
theorem at_efK {U : List Nat} {K : Fm → List OB → Prop} (ho : ops[i]? = some o) (hr : Ef P N E o F H K) (h : ∀ F' H', K F' H' → (∀ j ∈ U, Ag P N E ops F' H' j) ∧ AT P N E ops L F' H' Q) (hg : gok ops o F = true := by exact rfl) : AT P N E ops ((i, some U) :: L) F H Q := fun S ρ a w hR => by
  refine wpT_e ho fun K' hK => ?_
  rw [if_pos (wanted_of (P := P) hg hR)]
  refine effO_mono (fun a' w' hh => ?_) (hr S ρ a w hR)
  obtain ⟨S', ρ', F', H', hk, hR'⟩ := hh
  obtain ⟨h1, h2⟩ := h F' H' hk
  exact hK _ _ (fun j hj => h1 j hj S' ρ' a' w' hR') (h2 S' ρ' a' w' hR')
theorem at_efN {U : List Nat} {d : Nat} (ho : ops[i]? = some o) (hg : gd ops o F = some false) (hd : o.dst = some d) (hN : d < N) (h : (∀ j ∈ U, Ag P N E ops ((d, un) :: F) H j) ∧ AT P N E ops L ((d, un) :: F) H Q) : AT P N E ops ((i, some U) :: L) F H Q := fun S ρ a w hR => by
  refine wpT_e ho fun K' hK => ?_
  rw [if_neg (by rw [wanted_no hg hR]; simp)]
  have hR' : R N E S ρ ((d, un) :: F) H (a.put o.dst undef) w := by rw [hd]; exact hR.put hN (.c (.s _))
  exact hK _ _ (fun j hj => h.1 j hj S ρ _ w hR') (h.2 S ρ _ w hR')
theorem put_sameK {S : Nat → Prop} {ρ : List (Option Nat)} {a : Act} {w : World} {d : Nat} {x : AV} (hR : R N E S ρ F H a w) (hx : F.lookup d = some x) : a.put (some d) (x.den ρ H) = a := by
  have hf := (hR.fr d x hx).1
  obtain ⟨tm, df⟩ := a
  simp only [Act.put, Act.mk.injEq, and_true]
  refine Array.ext_getElem? fun k => ?_
  rw [Array.getElem?_setIfInBounds]
  split
  · rename_i hk; subst hk; rw [hf]; split
    · rfl
    · rename_i hlt; rw [Array.getElem?_eq_none (by simpa using hlt)] at hf; cases hf
  · rfl
theorem ag_rdK {j d : Nat} {x : AV} (ho : ops[j]? = some o) (hg : gok ops o F = true) (hd : o.dst = some d) (hr : Rd P N E o F H x) (hx : F.lookup d = some x) : Ag P N E ops F H j := fun S ρ a w hR => by
  obtain ⟨h1, h2⟩ := hr S ρ a w hR
  refine again_of ho fun K hK => ?_
  rw [if_pos (wanted_of (P := P) hg hR)]
  unfold Oper.still
  rw [h1]
  refine ⟨rfl, ?_⟩
  rw [hd, put_sameK hR hx]
  exact hK
theorem ag_un {j d : Nat} (ho : ops[j]? = some o) (hg : gd ops o F = some false) (hd : o.dst = some d) (hx : F.lookup d = some un) : Ag P N E ops F H j := fun S ρ a w hR => by
  refine again_of ho fun K hK => ?_
  rw [if_neg (by rw [wanted_no hg hR]; simp)]
  have : a.put (some d) undef = a := put_sameK hR hx
  rw [hd, this]
  exact hK
end
end Go.Proofs.YthanangkmjjbaaaGreatDoor
