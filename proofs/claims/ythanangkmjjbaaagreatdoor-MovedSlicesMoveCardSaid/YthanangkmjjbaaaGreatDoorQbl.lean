/- Closed calls: a run that nothing of the input goes into, as a function. Here: tables, values, blocks, states. Conditions: none. -/
import Derived.Test.YthanangkmjjbaaaGreatDoorQbk
import Derived.Test.YthanangkmjjbaaaGreatDoorQam
import Derived.LoopN
set_option linter.unusedSimpArgs false
set_option linter.unusedVariables false
/- Moved meshes of the reference, by value. -/
namespace Go.Proofs.YthanangkmjjbaaaGreatDoor
open Go Go.RowKit
set_option maxRecDepth 100000
theorem mvV_next {b : Vec3} {V : List Vec3} {k : Nat} {v : Vec3} (h : V[k]? = some v) : mvV b (V.take (k + 1)) = mvV b (V.take k) ++ [addV b v] := by
  unfold mvV
  rw [List.take_add_one, h]; simp
set_option maxHeartbeats 8000000 in
theorem made_v (v w : Value) (V : List Vec3) (Fs : List Fac3) (b : Vec3) (hVl : V.length ≤ 1000) (hFl : Fs.length ≤ 1000) (hV : ∀ a ∈ V, a.in 100000) (hb : b.in 100000) : ACalls Tryz.prog 45 [mshA v w V Fs, .f (.func 46) [.p 0 0 0]] [.box [.c (I b.x), .c (I b.y), .c (I b.z)]] fun u H => ∃ (q1 q2 : Value) (V' : List Vec3) (F' : List Fac3), u = .t [mshA q1 q2 V' F', .c (I (mshF (mvV b V) Fs))] ∧ H = [.box [.c (I b.x), .c (I b.y), .c (I b.z)]] ∧ (mshF (mvV b V) Fs = 0 → V' = mvV b V ∧ F' = Fs) := by
  have e1 : (V.map Vec3.row).length = V.length := by simp
  have e2 : (vR V).length = V.length := by simp
  obtain ⟨bx, by', bz⟩ := b
  refine acalls_of (N := 33) Tryz.func45 rfl rfl (by simp) fun E hE => ?_
  refine WA ?_
  refine WR ?_
  refine al_ef rfl (ef_call0 false (fun _ => cloneF_v Fs w (by omega)) rfl .fn rfl (by decide) (by kernel_rfl) rfl (fun _ => C0 rfl) (by simp)) ?_
  rintro _ _ ⟨_, _, _, ⟨qc, rfl, rfl⟩, hF, hH⟩
  (try simp only [nsl, Nat.reduceAdd, Nat.reduceLT, Nat.reduceSub] at hF); (try simp only [nsl, Nat.reduceAdd, Nat.reduceLT, Nat.reduceSub] at hH); subst hF; subst hH
  refine WE ?_
  refine WA ?_
  refine aw_loopw (fun m F H => ∃ (k c : Nat) (L : List Vec3), m + k = V.length ∧ L.length ≤ k ∧ L = mvV ⟨bx, by', bz⟩ (V.take k) ∧ F = [(1, .f (.func 46) [.p 0 0 0]), (4, .p 1 0 0), (6, .p 2 0 0), (14, .c (.r v (vR V))), (15, .c (I (vR V).length)), (16, .c (I k))] ∧ H = [.box [.c (I bx), .c (I by'), .c (I bz)], .box [.c (.r (.slice none 0 0) []), .c (.r (.slice none 0 0) [])], .box [.o 3 0 L.length c, .c (.r qc (fR Fs))], .arr 34 3 c (vR L)]) ?_ ?_
  · refine wk_of [some 0, some 2, some 3, none] (fun _ => [(1, .f (.func 46) [.p 0 0 0]), (4, .p 1 0 0), (6, .p 2 0 0), (14, .c (.r v (vR V))), (15, .c (I (vR V).length)), (16, .c (I (0 : Nat)))]) (fun _ => [.box [.c (I bx), .c (I by'), .c (I bz)], .box [.c (.r (.slice none 0 0) []), .c (.r (.slice none 0 0) [])], .box [.o 3 0 0 0, .c (.r qc (fR Fs))], .arr 34 3 0 []]) (by decide) (ZNL hE) ZCF ZCH (fun _ => ?_)
    exact ⟨V.length, 0, 0, [], by omega, by simp, rfl, rfl, rfl⟩
  rintro m F H ⟨k, c, L, hk, hLl, hL, rfl, rfl⟩
  refine WA ?_
  refine aw_if rfl (fun hlt => ?_) (fun hge => ?_)
  · obtain ⟨a, ha⟩ : ∃ z, V[k]? = some z := ⟨_, List.getElem?_eq_getElem (by omega)⟩
    have na := hV a (List.mem_of_getElem? ha)
    have hnx := mvV_next (b := ⟨bx, by', bz⟩) ha
    obtain ⟨ax, ay, az⟩ := a
    have hrow : (vR V)[k]? = some [I ax, I ay, I az] := by rw [List.getElem?_map, ha]; rfl
    refine WA ?_
    refine ZZ ?_
    refine aw_regionT [(0, none), (1, none), (2, none), (3, none), (4, some [0, 1]), (5, some [0, 1]), (6, some []), (7, none), (8, some [])] hMixed (by kernel_rfl) ?_
    refine WP ?_
    refine at_ef rfl rfl (ef_call [0] (fun _ => [.box [.c (I bx), .c (I by'), .c (I bz)]]) false (fun _ => moved1_v ⟨ax, ay, az⟩ ⟨bx, by', bz⟩ na hb) rfl (.clo rfl) rfl (by decide) (by kernel_rfl) rfl (fun _ => .cons (.aL (C0 rfl)) (.cons (.p rfl) .nil)) (by decide) ZCH (by simp)) ?_
    rintro F1 H1 ⟨_, _, _, _, ⟨rfl, rfl⟩, hF, hH⟩
    (try simp only [List.set_cons_zero, List.set_cons_succ, updH, posOf, lentArr, killF, killO, killV, AV.has, AV.hasL, AV.emb, AV.embL, OB.emb, embB, List.filter_cons, List.filter_nil, List.getElem?_cons_zero, List.getElem?_cons_succ, List.getD_cons_zero, List.getD_cons_succ, List.drop_succ_cons, List.drop_zero, List.drop_nil, List.contains_cons, List.contains_nil, Nat.reduceBEq, Nat.reduceEqDiff, beq_self_eq_true, Bool.or_false, Bool.false_or, Bool.or_true, Bool.true_or, Bool.false_eq_true, Option.map_some, Option.map_none, List.map_cons, List.map_nil, List.cons_append, List.nil_append, List.append_nil, List.length_cons, List.length_nil, Nat.reduceAdd, Nat.reduceLT, Nat.reduceSub, if_true, if_false, Nat.zero_add, Nat.add_zero, Nat.sub_zero, Nat.lt_irrefl, Nat.not_lt_zero, Nat.zero_lt_one, Nat.lt_add_one] at hF); (try simp only [List.set_cons_zero, List.set_cons_succ, updH, posOf, lentArr, killF, killO, killV, AV.has, AV.hasL, AV.emb, AV.embL, OB.emb, embB, List.filter_cons, List.filter_nil, List.getElem?_cons_zero, List.getElem?_cons_succ, List.getD_cons_zero, List.getD_cons_succ, List.drop_succ_cons, List.drop_zero, List.drop_nil, List.contains_cons, List.contains_nil, Nat.reduceBEq, Nat.reduceEqDiff, beq_self_eq_true, Bool.or_false, Bool.false_or, Bool.or_true, Bool.true_or, Bool.false_eq_true, Option.map_some, Option.map_none, List.map_cons, List.map_nil, List.cons_append, List.nil_append, List.append_nil, List.length_cons, List.length_nil, Nat.reduceAdd, Nat.reduceLT, Nat.reduceSub, if_true, if_false, Nat.zero_add, Nat.add_zero, Nat.sub_zero, Nat.lt_irrefl, Nat.not_lt_zero, Nat.zero_lt_one, Nat.lt_add_one] at hH); subst hF; subst hH
    refine ⟨ag_cons (by first | exact ag_rd rfl rfl rfl (ZX (KF (t := 29) (f := 0) rfl rfl)) rfl) (ag_cons (by first | exact ag_rd rfl rfl rfl (ZL (KK (t := 26) rfl)) rfl) (ag_none)), ?_⟩
    refine WP ?_
    refine at_ef rfl rfl (Zapp (KA (t := 26) rfl)) ?_
    rintro _ _ ⟨_, cc, hcc, rfl, rfl⟩
    refine ⟨ag_none, ?_⟩
    refine WQ ?_
    all_goals (refine WA ?_)
    all_goals (refine wk_of [some 0, some 1, some 2, some 3] (fun _ => [(1, .f (.func 46) [.p 0 0 0]), (4, .p 1 0 0), (6, .p 2 0 0), (14, .c (.r v (vR V))), (15, .c (I (vR V).length)), (16, .c (I (k + 1 : Nat)))]) (fun _ => [.box [.c (I bx), .c (I by'), .c (I bz)], .box [.c (.r (.slice none 0 0) []), .c (.r (.slice none 0 0) [])], .box [.o 3 0 (L ++ [addV ⟨bx, by', bz⟩ ⟨ax, ay, az⟩]).length cc, .c (.r qc (fR Fs))], .arr 34 3 cc (vR L ++ [Vec3.row (addV ⟨bx, by', bz⟩ ⟨ax, ay, az⟩)])]) (by decide) (ZNL hE) ZCF ZCH (fun _ => ?_))
    all_goals (exact ⟨m - 1, by omega, k + 1, cc, L ++ [addV ⟨bx, by', bz⟩ ⟨ax, ay, az⟩], by omega, by simp; omega, by rw [hnx, hL], rfl, by simp⟩)
  obtain rfl : k = V.length := by omega
  rw [List.take_of_length_le (Nat.le_refl _)] at hL
  refine ZZ ?_
  refine aw_wk (wk_of (K := fun F H => ∃ q0, F = [(4, .p 1 0 0), (6, .p 2 0 0)] ∧ H = [.box [.c (I bx), .c (I by'), .c (I bz)], .box [.c (.r (.slice none 0 0) []), .c (.r (.slice none 0 0) [])], .box [.c (.r q0 (vR L)), .c (.r qc (fR Fs))]]) [some 0, some 1, some 2] (fun _ => [(4, .p 1 0 0), (6, .p 2 0 0)]) (fun g => [.box [.c (I bx), .c (I by'), .c (I bz)], .box [.c (.r (.slice none 0 0) []), .c (.r (.slice none 0 0) [])], .box [.c (.r (g (.o 3 0 L.length c)) (vR L)), .c (.r qc (fR Fs))]]) (by decide) (ZNL hE) ZCF (by intro _g; (repeat first | exact K0 | apply K1 rfl | apply K2 rfl rfl | apply K3 | exact L0 | apply L1 | exact V6 rfl rfl (by rw [List.drop_zero, List.take_of_length_le (by simp)]) (by simp) rfl | exact V1 rfl); fail_if_success focus skip) (fun _ => ⟨_, rfl, rfl⟩)) ?_
  rintro F H ⟨q0, rfl, rfl⟩
  subst hL
  refine WR ?_
  refine al_ef rfl (ef_call0 false (fun _ => right_v _ _ (mvV ⟨bx, by', bz⟩ V) Fs (by simp [mvV]; omega) (by omega)) rfl .fn rfl (by decide) (by kernel_rfl) rfl (fun _ => C0 rfl) (by simp)) ?_
  rintro _ _ ⟨_, _, _, ⟨q1, q2, V', F', rfl, rfl, hVF⟩, hF, hH⟩
  (try simp only [nsl, Nat.reduceAdd, Nat.reduceLT, Nat.reduceSub] at hF); (try simp only [nsl, Nat.reduceAdd, Nat.reduceLT, Nat.reduceSub] at hH); subst hF; subst hH
  refine WE ?_
  exact aret_a2 [some 0] _ rfl (KK (t := 29) rfl) rfl (Cells.box rfl) (by simp) (by (try simp only [nm, putL, Nat.reduceAdd, cellsOf, cvOf]) <;> rfl) rfl rfl (by decide) (ZNK rfl) (fun _ => C0 rfl) ZCH ⟨q1, q2, V', F', rfl, rfl, hVF⟩
end Go.Proofs.YthanangkmjjbaaaGreatDoor

/- MovedMesh of the reference, by value. -/
-- NEWM
namespace Go.Proofs.YthanangkmjjbaaaGreatDoor
open Go Go.RowKit
set_option maxRecDepth 100000
theorem in_near {n : Int} (h : -100000 ≤ n ∧ n ≤ 100000) : (!(decide (n < -300000) || decide (300000 < n))) = true := by
  rw [decide_eq_false (by omega), decide_eq_false (by omega)]; rfl
set_option maxHeartbeats 4000000 in
theorem movedmesh_v (v w : Value) (V : List Vec3) (Fs : List Fac3) (b : Vec3) (hVl : V.length ≤ 1000) (hFl : Fs.length ≤ 1000) (hV : ∀ a ∈ V, a.in 100000) (hb : b.in 100000) : ACalls Tryz.prog 12 [mshA v w V Fs, .a [.c (I b.x), .c (I b.y), .c (I b.z)]] [] fun u H => ∃ (q1 q2 : Value) (V' : List Vec3) (F' : List Fac3), u = .t [mshA q1 q2 V' F', .c (I (mshF (mvV b V) Fs))] ∧ H = [] ∧ (mshF (mvV b V) Fs = 0 → V' = mvV b V ∧ F' = Fs) := by
  have hb2 := hb
  obtain ⟨bx, by', bz⟩ := b
  simp only [Vec3.in] at hb2
  obtain ⟨b1, b2, b3⟩ := hb2
  have hrows : ∀ k : Nat, k < 3 → ∃ n : Int, ([[I bx], [I by'], [I bz]] : List (List CV))[k]? = some [I n] ∧ (-100000 ≤ n ∧ n ≤ 100000) := fun k hk => by
    match k, hk with
    | 0, _ => exact ⟨bx, rfl, b1⟩
    | 1, _ => exact ⟨by', rfl, b2⟩
    | 2, _ => exact ⟨bz, rfl, b3⟩
  refine acalls_of (N := 36) Tryz.func12 rfl rfl (by simp) fun E hE => ?_
  refine WA ?_
  refine WA ?_
  refine aw_loopw (fun m F H => ∃ (k : Nat), m + k = 3 ∧ F = [(2, .p 0 0 0), (3, .p 1 0 0), (4, .p 2 0 0), (14, .o 3 0 3 3), (15, .c (I 3)), (16, .c (I k))] ∧ H = [mBox v w V (fR Fs), .box [.c (I bx), .c (I by'), .c (I bz)], .box [.c (.r (.slice none 0 0) []), .c (.r (.slice none 0 0) [])], .arr 3 1 3 [[I bx], [I by'], [I bz]]]) ?_ ?_
  · refine wk_of [some 0, some 1, some 2, some 3] (fun _ => [(2, .p 0 0 0), (3, .p 1 0 0), (4, .p 2 0 0), (14, .o 3 0 3 3), (15, .c (I 3)), (16, .c (I (0 : Nat)))]) (fun _ => _) (by decide) (ZNL hE) ZCF ZCH (fun _ => ?_)
    exact ⟨3, 0, by omega, rfl, rfl⟩
  rintro m F H ⟨k, hk, rfl, rfl⟩
  refine WA ?_
  refine aw_if rfl (fun hlt => ?_) (fun hge => ?_)
  · obtain ⟨n, hrow, hn⟩ := hrows k (by omega)
    generalize ([[I bx], [I by'], [I bz]] : List (List CV)) = R3 at hrow ⊢
    refine ZR ?_
    refine ZA (rd_index (i := k) rfl (KE (t := 22) rfl) rfl rfl rfl (by omega) (by omega)) ?_
    refine WE ?_
    refine WR ?_
    refine al_ef rfl (ef_call0 false (fun _ => rin_v n _ _) rfl .fn rfl (by decide) (by kernel_rfl) rfl (fun _ => C0 rfl) (by simp)) ?_
    rintro _ _ ⟨_, _, _, ⟨hu, rfl⟩, hF, hH⟩
    rw [in_near hn] at hu; subst hu
    (try simp only [nsl, Nat.reduceAdd, Nat.reduceLT, Nat.reduceSub] at hF); (try simp only [nsl, Nat.reduceAdd, Nat.reduceLT, Nat.reduceSub] at hH); subst hF; subst hH
    refine WE ?_
    refine aw_cond_f rfl ?_
    refine ZZ ?_
    refine WA ?_
    refine wk_of [some 0, some 1, some 2, some 3] (fun _ => [(2, .p 0 0 0), (3, .p 1 0 0), (4, .p 2 0 0), (14, .o 3 0 3 3), (15, .c (I 3)), (16, .c (I (k + 1 : Nat)))]) (fun _ => _) (by decide) (ZNL hE) ZCF ZCH (fun _ => ?_)
    exact ⟨m - 1, by omega, k + 1, by omega, rfl, rfl⟩
  refine ZZ ?_
  refine WR ?_
  refine al_ef rfl (ef_call [1] (fun _ => [.box [.c (I bx), .c (I by'), .c (I bz)]]) false (fun _ => made_v v w V Fs ⟨bx, by', bz⟩ hVl hFl hV hb) rfl .fn rfl (by decide) (by kernel_rfl) rfl (fun _ => .cons (.aL (C0 rfl)) (.cons (.fL (.cons (.p rfl) .nil)) .nil)) (by decide) ZCH (by simp)) ?_
  rintro F1 H1 ⟨_, _, _, _, ⟨q1, q2, V', F', rfl, rfl, hVF⟩, hF, hH⟩
  (try simp only [List.set_cons_zero, List.set_cons_succ, updH, posOf, lentArr, killF, killO, killV, AV.has, AV.hasL, AV.emb, AV.embL, OB.emb, embB, List.filter_cons, List.filter_nil, List.getElem?_cons_zero, List.getElem?_cons_succ, List.getD_cons_zero, List.getD_cons_succ, List.drop_succ_cons, List.drop_zero, List.drop_nil, List.contains_cons, List.contains_nil, Nat.reduceBEq, Nat.reduceEqDiff, beq_self_eq_true, Bool.or_false, Bool.false_or, Bool.or_true, Bool.true_or, Bool.false_eq_true, Option.map_some, Option.map_none, List.map_cons, List.map_nil, List.cons_append, List.nil_append, List.append_nil, List.length_cons, List.length_nil, Nat.reduceAdd, Nat.reduceLT, Nat.reduceSub, if_true, if_false, Nat.zero_add, Nat.add_zero, Nat.sub_zero, Nat.lt_irrefl, Nat.not_lt_zero, Nat.zero_lt_one, Nat.lt_add_one] at hF); (try simp only [List.set_cons_zero, List.set_cons_succ, updH, posOf, lentArr, killF, killO, killV, AV.has, AV.hasL, AV.emb, AV.embL, OB.emb, embB, List.filter_cons, List.filter_nil, List.getElem?_cons_zero, List.getElem?_cons_succ, List.getD_cons_zero, List.getD_cons_succ, List.drop_succ_cons, List.drop_zero, List.drop_nil, List.contains_cons, List.contains_nil, Nat.reduceBEq, Nat.reduceEqDiff, beq_self_eq_true, Bool.or_false, Bool.false_or, Bool.or_true, Bool.true_or, Bool.false_eq_true, Option.map_some, Option.map_none, List.map_cons, List.map_nil, List.cons_append, List.nil_append, List.append_nil, List.length_cons, List.length_nil, Nat.reduceAdd, Nat.reduceLT, Nat.reduceSub, if_true, if_false, Nat.zero_add, Nat.add_zero, Nat.sub_zero, Nat.lt_irrefl, Nat.not_lt_zero, Nat.zero_lt_one, Nat.lt_add_one] at hH); subst hF; subst hH
  refine WE ?_
  exact aret_a2 [] _ rfl (KK (t := 29) rfl) rfl (Cells.box rfl) (by simp) (by (try simp only [nm, putL, Nat.reduceAdd, cellsOf, cvOf]) <;> rfl) rfl rfl (by decide) (ZNK rfl) (fun _ => C0 rfl) (fun _ => .nil) ⟨q1, q2, V', F', rfl, rfl, hVF⟩
end Go.Proofs.YthanangkmjjbaaaGreatDoor

/- Closed calls: a run that nothing of the input goes into, as a function. Here: tables, values, blocks, states. Conditions: none. -/
namespace Go.Proofs.YthanangkmjjbaaaGreatDoor
open Go Go.RowKit
set_option maxRecDepth 100000
/-- A table from numbers. -/
inductive XT (α : Type) where
  | nil
  | node (l : XT α) (v : Option α) (r : XT α)
def XT.get {α : Type} : XT α → Nat → Option α
  | .nil, _ => none
  | .node l v r, k => match k with
    | 0 => v
    | k + 1 => match Nat.mod k 2 with
      | 0 => l.get (Nat.div k 2)
      | _ + 1 => r.get (Nat.div k 2)
def XT.set {α : Type} : Nat → XT α → Nat → α → XT α
  | 0, t, _, _ => t
  | n + 1, .nil, k, x => (match k with
    | 0 => .node .nil (some x) .nil
    | k + 1 => match Nat.mod k 2 with
      | 0 => .node (XT.set n .nil (Nat.div k 2) x) none .nil
      | _ + 1 => .node .nil none (XT.set n .nil (Nat.div k 2) x))
  | n + 1, .node l v r, k, x => (match k with
    | 0 => .node l (some x) r
    | k + 1 => match Nat.mod k 2 with
      | 0 => .node (XT.set n l (Nat.div k 2) x) v r
      | _ + 1 => .node l v (XT.set n r (Nat.div k 2) x))
theorem XT.get_set {α : Type} : ∀ (n : Nat) (t : XT α) (k : Nat) (x : α) (j : Nat), k + 1 < 2 ^ n → (XT.set n t k x).get j = if j = k then some x else t.get j
  | 0, t, k, x, j, h => by omega
  | n + 1, t, k, x, j, h => by
    have key : ∀ (l r : XT α) (v : Option α), (XT.set (n + 1) (.node l v r) k x).get j = if j = k then some x else (XT.node l v r).get j := fun l r v => by
      cases k with
      | zero =>
        cases j with
        | zero => rfl
        | succ j => simp [XT.set, XT.get]
      | succ k =>
        have hk : Nat.div k 2 + 1 < 2 ^ n := by
          have : (2 : Nat) ^ (n + 1) = 2 * 2 ^ n := by rw [Nat.pow_succ, Nat.mul_comm]
          have h2 : Nat.div k 2 = k / 2 := rfl
          omega
        have hm : Nat.mod k 2 = k % 2 := rfl
        cases j with
        | zero =>
          have h0 : ¬ (0 = k + 1) := by omega
          unfold XT.set
          simp only
          split <;> simp [XT.get]
        | succ j =>
          have hd : ∀ a : Nat, Nat.div a 2 = a / 2 := fun _ => rfl
          have hmj : ∀ a : Nat, Nat.mod a 2 = a % 2 := fun _ => rfl
          rcases Nat.mod_two_eq_zero_or_one k with h1 | h1 <;> rcases Nat.mod_two_eq_zero_or_one j with h2 | h2
          · have ih := XT.get_set n l (Nat.div k 2) x (Nat.div j 2) hk
            have e1 : XT.set (n + 1) (.node l v r) (k + 1) x = .node (XT.set n l (Nat.div k 2) x) v r := by rw [XT.set]; simp only [hmj, h1]
            rw [e1, XT.get, XT.get]
            simp only [hmj, h2]
            rw [ih]
            simp only [hd]
            by_cases he : j = k
            · subst he; simp
            · rw [if_neg (by omega), if_neg (by omega)]
          · have e1 : XT.set (n + 1) (.node l v r) (k + 1) x = .node (XT.set n l (Nat.div k 2) x) v r := by rw [XT.set]; simp only [hmj, h1]
            rw [e1, XT.get, XT.get]
            simp only [hmj, h2]
            rw [if_neg (by omega)]
          · have e1 : XT.set (n + 1) (.node l v r) (k + 1) x = .node l v (XT.set n r (Nat.div k 2) x) := by rw [XT.set]; simp only [hmj, h1]
            rw [e1, XT.get, XT.get]
            simp only [hmj, h2]
            rw [if_neg (by omega)]
          · have ih := XT.get_set n r (Nat.div k 2) x (Nat.div j 2) hk
            have e1 : XT.set (n + 1) (.node l v r) (k + 1) x = .node l v (XT.set n r (Nat.div k 2) x) := by rw [XT.set]; simp only [hmj, h1]
            rw [e1, XT.get, XT.get]
            simp only [hmj, h2]
            rw [ih]
            simp only [hd]
            by_cases he : j = k
            · subst he; simp
            · rw [if_neg (by omega), if_neg (by omega)]
    cases t with
    | node l v r => exact key l r v
    | nil =>
      have e : XT.set (n + 1) (.nil : XT α) k x = XT.set (n + 1) (.node .nil none .nil) k x := by
        unfold XT.set
        cases k with
        | zero => rfl
        | succ k => rfl
      rw [e, key .nil .nil none]
      split
      · rfl
      · cases j with
        | zero => rfl
        | succ j => simp only [XT.get]; split <;> rfl
/-- A number that fits: tables hold those below it. -/
def xdepth : Nat := 20
def xcap : Nat := 1048575
/-- Values of a closed call: plain ones; pointers and slices into its own blocks (of a known capacity, or of the block's own less e); what is behind the last element; maps; structs and arrays, several results, functions; a loop's yield. -/
inductive XV where
  | v (x : Value)
  | p (b j : Nat)
  | sl (b k n c : Nat)
  | sg (b k n e : Nat)
  | se (b k q e : Nat)
  | m (b : Nat)
  | a (l : List XV)
  | t (l : List XV)
  | f (fn : FuncId) (caps : List XV)
  | yl (b : Nat)
/-- Blocks: cells of elements of type e, all known, or known in front; a map (with the moments at which its entries came); a walk through a map; one that is known no more. -/
inductive XB where
  | cells (e : TypeId) (cs : List XV)
  | grown (e : TypeId) (sz : Nat) (cs : List XV)
  | map (es : List (Value × XV)) (bs : List Nat) (ck : Nat)
  | iter (m since : Nat) (seen : List Nat) (last : Nat)
  | dead
mutual
def XV.den (ρ γ : Nat → Nat) : XV → Value
  | .v x => x
  | .p b j => .pointer (some ⟨ρ b, j, none⟩)
  | .sl b k n c => .slice (some ⟨ρ b, k, none⟩) n c
  | .sg b k n e => .slice (some ⟨ρ b, k, none⟩) n (γ b - e)
  | .se b k q e => .slice (some ⟨ρ b, if γ b = e then k else q, none⟩) 0 (γ b - e)
  | .m b => .map (some (ρ b))
  | .a l => .agg (XV.denL ρ γ l).toArray
  | .t l => .tuple (XV.denL ρ γ l).toArray
  | .f fn caps => .func (.func fn) #[] (XV.denL ρ γ caps).toArray
  | .yl b => .func (.yield (ρ b)) #[] #[]
def XV.denL (ρ γ : Nat → Nat) : List XV → List Value
  | [] => []
  | x :: l => x.den ρ γ :: XV.denL ρ γ l
end
theorem XV.denL_eq (ρ γ : Nat → Nat) : ∀ l, XV.denL ρ γ l = l.map (XV.den ρ γ)
  | [] => rfl
  | x :: l => by rw [XV.denL, XV.denL_eq ρ γ l]; rfl
mutual
/-- All blocks that are named are there, with room enough. -/
def XV.ok (A : Nat → Nat → Prop) : XV → Prop
  | .v _ => True
  | .p b _ => A b 0
  | .sl b _ _ _ => A b 0
  | .sg b _ n e => A b (n + e)
  | .se b _ _ e => A b e
  | .m b => A b 0
  | .a l => XV.okL A l
  | .t l => XV.okL A l
  | .f _ l => XV.okL A l
  | .yl b => A b 0
def XV.okL (A : Nat → Nat → Prop) : List XV → Prop
  | [] => True
  | x :: l => x.ok A ∧ XV.okL A l
end
theorem XV.okL_iff {A : Nat → Nat → Prop} : ∀ {l : List XV}, XV.okL A l ↔ ∀ x ∈ l, x.ok A
  | [] => by simp [XV.okL]
  | x :: l => by simp [XV.okL, XV.okL_iff (l := l)]
theorem XV.induct {Pr : XV → Prop} (hv : ∀ x, Pr (.v x)) (hp : ∀ b j, Pr (.p b j)) (hs : ∀ b k n c, Pr (.sl b k n c)) (hg : ∀ b k n e, Pr (.sg b k n e)) (he : ∀ b k q e, Pr (.se b k q e)) (hm : ∀ b, Pr (.m b)) (ha : ∀ l, (∀ x ∈ l, Pr x) → Pr (.a l)) (ht : ∀ l, (∀ x ∈ l, Pr x) → Pr (.t l)) (hf : ∀ fn l, (∀ x ∈ l, Pr x) → Pr (.f fn l)) (hy : ∀ b, Pr (.yl b)) : ∀ x, Pr x := by
  intro x
  refine XV.rec (motive_1 := Pr) (motive_2 := fun l => ∀ x ∈ l, Pr x) hv hp hs hg he hm (fun l h => ha l h) (fun l h => ht l h) (fun fn l h => hf fn l h) hy (fun x h => by cases h) (fun x l h1 h2 y hy => ?_) x
  rcases List.mem_cons.1 hy with rfl | hy
  · exact h1
  · exact h2 y hy
theorem XV.den_same {ρ γ ρ' γ' : Nat → Nat} {A : Nat → Nat → Prop} (h : ∀ b m, A b m → ρ' b = ρ b ∧ γ' b = γ b) (x : XV) : x.ok A → x.den ρ' γ' = x.den ρ γ := by
  refine XV.induct (Pr := fun x => x.ok A → x.den ρ' γ' = x.den ρ γ) ?_ ?_ ?_ ?_ ?_ ?_ ?_ ?_ ?_ ?_ x
  · intro x _; rfl
  · intro b j hb; simp only [XV.den, (h _ _ hb).1]
  · intro b k m c hb; simp only [XV.den, (h _ _ hb).1]
  · intro b k m e hb; simp only [XV.den, (h _ _ hb).1, (h _ _ hb).2]
  · intro b k q e hb; simp only [XV.den, (h _ _ hb).1, (h _ _ hb).2]
  · intro b hb; simp only [XV.den, (h _ _ hb).1]
  · intro l ih hl; rw [XV.ok, XV.okL_iff] at hl; simp only [XV.den, XV.denL_eq]; rw [List.map_congr_left fun x hx => ih x hx (hl x hx)]
  · intro l ih hl; rw [XV.ok, XV.okL_iff] at hl; simp only [XV.den, XV.denL_eq]; rw [List.map_congr_left fun x hx => ih x hx (hl x hx)]
  · intro fn l ih hl; rw [XV.ok, XV.okL_iff] at hl; simp only [XV.den, XV.denL_eq]; rw [List.map_congr_left fun x hx => ih x hx (hl x hx)]
  · intro b hb; simp only [XV.den, (h _ _ hb).1]
theorem XV.ok_mono {A B : Nat → Nat → Prop} (h : ∀ b m, A b m → B b m) (x : XV) : x.ok A → x.ok B := by
  refine XV.induct (Pr := fun x => x.ok A → x.ok B) ?_ ?_ ?_ ?_ ?_ ?_ ?_ ?_ ?_ ?_ x
  · intro x _; trivial
  · intro b j hb; exact h _ _ hb
  · intro b k m c hb; exact h _ _ hb
  · intro b k m e hb; exact h _ _ hb
  · intro b k q e hb; exact h _ _ hb
  · intro b hb; exact h _ _ hb
  · intro l ih hl; rw [XV.ok, XV.okL_iff] at hl ⊢; exact fun x hx => ih x hx (hl x hx)
  · intro l ih hl; rw [XV.ok, XV.okL_iff] at hl ⊢; exact fun x hx => ih x hx (hl x hx)
  · intro fn l ih hl; rw [XV.ok, XV.okL_iff] at hl ⊢; exact fun x hx => ih x hx (hl x hx)
  · intro b hb; exact h _ _ hb
/-- A block in the world: at address B, with room for g elements. -/
def XOwn (w : World) (ρ γ : Nat → Nat) (B g : Nat) : XB → Prop
  | .cells e cs => w.heap[B]? = some (.cells (cs.map (XV.den ρ γ)).toArray e (0, 0)) ∧ ∀ x ∈ cs, (x.den ρ γ).oneCell' = true
  | .grown e sz cs => ∃ arr, w.heap[B]? = some (.cells arr e (0, 0)) ∧ arr.size = g * sz ∧ g ≤ maxLen ∧ cs.length ≤ arr.size ∧ ∀ (i : Nat) (x : XV), cs[i]? = some x → arr[i]? = some (x.den ρ γ) ∧ (x.den ρ γ).oneCell' = true
  | .map es bs ck => ∃ ms, w.heap[B]? = some (.map ms ck) ∧ ms.toList.map (fun m => (m.key, m.val)) = es.map (fun p => (p.1, p.2.den ρ γ)) ∧ ms.toList.map (·.born) = bs
  | .iter m since seen last => w.heap[B]? = some (.mapIter (some (ρ m)) since seen.toArray last)
  | .dead => True
def XB.ok (A : Nat → Nat → Prop) : XB → Prop
  | .cells _ cs => XV.okL A cs
  | .grown _ _ cs => XV.okL A cs
  | .map es _ _ => ∀ p ∈ es, p.2.ok A
  | .iter m _ _ _ => A m 0
  | .dead => True
def XB.live : XB → Bool
  | .dead => false
  | _ => true
abbrev XHp := XT XB
abbrev XFr := XT XV
/-- A block that is there, with room for m. -/
def XT.has {α : Type} (t : XT α) (γ : Nat → Nat) (b m : Nat) : Prop := (t.get b).isSome = true ∧ m ≤ γ b
/-- Where a run began: the world; what else is there that must stay; the blocks of this activation's ranges over functions. -/
structure XEnv where
  w : World
  X : Nat → Option Obj
  own : List Nat
structure XBs (E : XEnv) (w' : World) : Prop extends Stp E.w w' (fun _ => False) where
  fx : ∀ B ob, E.X B = some ob → w'.heap[B]? = some ob
theorem XBs.lt {E : XEnv} {w' : World} (h : XBs E w') {B : Nat} {ob : Obj} (hB : E.X B = some ob) : B < w'.heap.size := (Array.getElem?_eq_some_iff.1 (h.fx B ob hB)).1
theorem XBs.new {E : XEnv} {w' : World} (h : XBs E w') : E.X w'.heap.size = none := by
  cases hX : E.X w'.heap.size with
  | none => rfl
  | some ob => exact absurd (h.lt hX) (Nat.lt_irrefl _)
theorem XBs.alloc {E : XEnv} {w' : World} (h : XBs E w') (o : Obj) : XBs E (w'.alloc o) := ⟨h.toStp.alloc o, fun B ob hB => (Below.heap_alloc w' o B (h.lt hB)).trans (h.fx B ob hB)⟩
theorem XBs.drew {E : XEnv} {w' : World} (h : XBs E w') : XBs E w'.drew := ⟨h.toStp.drew, h.fx⟩
/-- A state of a closed call, in the world: base is the heap's size where the run began. -/
structure XH (w0 : XEnv) (ρ γ : Nat → Nat) (H : XHp) (w : World) : Prop where
  nd : ∀ i j o o', H.get i = some o → H.get j = some o' → o.live = true → o'.live = true → ρ i = ρ j → i = j
  hi : ∀ i o, H.get i = some o → o.live = true → w0.w.heap.size ≤ ρ i ∧ ρ i < w.heap.size
  ap : ∀ i o, H.get i = some o → o.live = true → w0.X (ρ i) = none
  bl : ∀ i o, H.get i = some o → o.ok (H.has γ) ∧ XOwn w ρ γ (ρ i) (γ i) o
  st : XBs w0 w
structure XR (N : Nat) (w0 : XEnv) (ρ γ : Nat → Nat) (F : XFr) (H : XHp) (a : Act) (w : World) : Prop where
  df : a.defers = w0.own.map (fun D => ⟨.collected D, #[]⟩) ∧ w0.own.Nodup ∧ ∀ D ∈ w0.own, w0.X D = some (.deferred (some [])) ∧ w0.w.heap.size ≤ D
  sz : N ≤ a.tmps.size
  fr : ∀ i x, F.get i = some x → a.tmps[i]? = some (x.den ρ γ) ∧ x.ok (H.has γ)
  hp : XH w0 ρ γ H w
def xev (F : XFr) : Operand → Option XV
  | .tmp t => F.get t
  | .const v => some (.v v)
  | .func f => some (.f f [])
  | .global _ => none
section
variable {N : Nat} {w0 : XEnv} {ρ γ : Nat → Nat} {F : XFr} {H : XHp} {a : Act} {w : World}
theorem XR.ev {x : Operand} {v : XV} (h : XR N w0 ρ γ F H a w) (hx : xev F x = some v) : a.eval x = v.den ρ γ ∧ v.ok (H.has γ) := by
  cases x with
  | tmp t =>
    obtain ⟨h1, h2⟩ := h.fr t v hx
    exact ⟨by rw [Act.eval, Array.getD_eq_getD_getElem?, h1]; rfl, h2⟩
  | const c =>
    simp only [xev, Option.some.injEq] at hx
    subst hx
    exact ⟨rfl, trivial⟩
  | func f =>
    simp only [xev, Option.some.injEq] at hx
    subst hx
    exact ⟨rfl, trivial⟩
  | global g => cases hx
/-- A slot that is written. -/
def xput (N : Nat) (F : XFr) (d : Nat) (x : XV) : Option XFr := bif Nat.blt d N && Nat.blt d xcap then some (XT.set xdepth F d x) else none
theorem xput_get {F' : XFr} {d : Nat} {x : XV} (h : xput N F d x = some F') : d < N ∧ ∀ i, F'.get i = if i = d then some x else F.get i := by
  unfold xput at h
  cases hc : (Nat.blt d N && Nat.blt d xcap) with
  | false => rw [hc] at h; cases h
  | true =>
    rw [hc] at h
    injection h with h
    subst h
    simp only [Bool.and_eq_true, Nat.blt_eq] at hc
    exact ⟨hc.1, fun i => XT.get_set xdepth F d x i (by have := hc.2; simp only [xcap, xdepth] at *; omega)⟩
theorem XR.put {F' : XFr} {d : Nat} {x : XV} (h : XR N w0 ρ γ F H a w) (hp : xput N F d x = some F') (hx : x.ok (H.has γ)) : XR N w0 ρ γ F' H (a.put (some d) (x.den ρ γ)) w := by
  obtain ⟨hd, hg⟩ := xput_get hp
  refine ⟨h.df, by simpa [Act.put] using h.sz, fun i y hy => ?_, h.hp⟩
  rw [hg] at hy
  by_cases hi : i = d
  · subst hi
    rw [if_pos rfl] at hy
    injection hy with hy
    subst hy
    have := h.sz
    exact ⟨by simp [Act.put, Array.getElem?_setIfInBounds]; omega, hx⟩
  · rw [if_neg hi] at hy
    obtain ⟨h1, h2⟩ := h.fr i y hy
    exact ⟨by simp only [Act.put]; rw [Array.getElem?_setIfInBounds_ne (Ne.symm hi)]; exact h1, h2⟩
end
end Go.Proofs.YthanangkmjjbaaaGreatDoor
