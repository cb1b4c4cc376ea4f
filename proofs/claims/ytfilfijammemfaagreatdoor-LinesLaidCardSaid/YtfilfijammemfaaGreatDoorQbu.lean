/- The reference's plan: the walls of its first filling stay an array of the call's own. -/
import Derived.Test.YtfilfijammemfaaGreatDoorQbq
import Derived.Test.YtfilfijammemfaaGreatDoorQbr
import Derived.Test.YtfilfijammemfaaGreatDoorQbt
import Derived.Test.YtfilfijammemfaaGreatDoorQba
import Derived.Test.YtfilfijammemfaaGreatDoorQbh
import Derived.Test.YtfilfijammemfaaGreatDoorQau
set_option linter.unusedSimpArgs false
set_option linter.unusedVariables false
/- The reference's PartsOf: a queue that is cut at its head. -/
-- NEWM
namespace Go.Proofs.YtfilfijammemfaaGreatDoor
open Go Go.RowKit
set_option maxRecDepth 100000
abbrev nb4 (x y : Int) : List Spot := [(x - 1, y), (x + 1, y), (x, y - 1), (x, y + 1)]
theorem nb4_mem {x y : Int} {q : Spot} : q ∈ nb4 x y ↔ q ∈ nbS (x, y) := by
 rw [nbS_mem]
 obtain ⟨a, b⟩ := q
 simp only [List.mem_cons, List.not_mem_nil, or_false, Prod.mk.injEq]
 omega
structure FldI (L S : List Spot) (k : Spot) (R T Q : List Spot) : Prop where
 r : ∀ p, p ∈ R ↔ p ∈ L ∧ p ∉ S ∧ p ∉ T
 t : ∀ p ∈ T, Conn L k p ∧ p ∉ S
 n : ∀ p ∈ T, ∀ q ∈ nbS p, q ∈ L → q ∈ S ∨ q ∈ T ∨ q ∈ Q
 q : ∀ q ∈ Q, q ∈ L → Conn L k q
 k : k ∈ T ∨ k ∈ Q
theorem FldI.hit {L S R T Q : List Spot} {k : Spot} {x y : Int} (h : FldI L S k R T ((x, y) :: Q)) (hx : (x, y) ∈ R) : FldI L S k (R.filter fun q => !decide (q = (x, y))) (T ++ [(x, y)]) (Q ++ nb4 x y) := by
 obtain ⟨h1, h2, h3⟩ := (h.r _).1 hx
 have hc := h.q (x, y) List.mem_cons_self h1
 refine ⟨fun p => ?_, fun p hp => ?_, fun p hp q hq hL => ?_, fun q hq hL => ?_, ?_⟩
 ·rw [List.mem_filter, h.r, List.mem_append, List.mem_singleton]
  simp only [Bool.not_eq_true', decide_eq_false_iff_not, not_or]
  constructor
  ·rintro ⟨⟨a, b, c⟩, d⟩; exact ⟨a, b, c, d⟩
  ·rintro ⟨a, b, c, d⟩; exact ⟨⟨a, b, c⟩, d⟩
 ·rcases List.mem_append.1 hp with hp | hp
  ·exact h.t p hp
  ·rw [List.mem_singleton.1 hp]; exact ⟨hc, h2⟩
 ·rcases List.mem_append.1 hp with hp | hp
  ·rcases h.n p hp q hq hL with e | e | e
   ·exact .inl e
   ·exact .inr (.inl (List.mem_append_left _ e))
   ·rcases List.mem_cons.1 e with e | e
    ·exact .inr (.inl (by rw [e]; simp))
    ·exact .inr (.inr (List.mem_append_left _ e))
  ·rw [List.mem_singleton.1 hp] at hq
   exact .inr (.inr (List.mem_append_right _ (nb4_mem.2 hq)))
 ·rcases List.mem_append.1 hq with hq | hq
  ·exact h.q q (List.mem_cons_of_mem _ hq) hL
  ·exact .step hc (nb4_mem.1 hq) hL
 ·rcases h.k with e | e
  ·exact .inl (List.mem_append_left _ e)
  ·rcases List.mem_cons.1 e with e | e
   ·exact .inl (by rw [e]; simp)
   ·exact .inr (List.mem_append_left _ e)
theorem FldI.miss {L S R T Q : List Spot} {k x : Spot} (h : FldI L S k R T (x :: Q)) (hk : k ∈ L) (hs : k ∉ S) (hx : x ∉ R) : FldI L S k R T Q := by
 refine ⟨h.r, h.t, fun p hp q hq hL => ?_, fun q hq hL => h.q q (List.mem_cons_of_mem _ hq) hL, ?_⟩
 ·rcases h.n p hp q hq hL with e | e | e
  ·exact .inl e
  ·exact .inr (.inl e)
  ·rcases List.mem_cons.1 e with e | e
   ·subst e
    by_cases h1 : q ∈ S
    ·exact .inl h1
    ·by_cases h2 : q ∈ T
     ·exact .inr (.inl h2)
     ·exact absurd ((h.r q).2 ⟨hL, h1, h2⟩) hx
   ·exact .inr (.inr e)
 ·rcases h.k with e | e
  ·exact .inl e
  ·rcases List.mem_cons.1 e with e | e
   ·subst e
    by_cases h2 : k ∈ T
    ·exact .inl h2
    ·exact absurd ((h.r k).2 ⟨hk, hs, h2⟩) hx
   ·exact .inr e
theorem FldI.fin {L S R T : List Spot} {k : Spot} (h : FldI L S k R T []) (hS : Clo L S) (q : Spot) : q ∈ T ↔ Conn L k q :=
 conn_end hS (h.k.resolve_right (by simp)) (fun p hp => (h.t p hp).2) (fun p hp => (h.t p hp).1) (fun p hp q hq hL => by
  rcases h.n p hp q hq hL with e | e | e
  ·exact .inl e
  ·exact .inr e
  ·cases e) q
structure BufI (RR : List (List CV)) (kk : Nat) (Q : List Spot) (cq : Nat) : Prop where
 c : Q.length ≤ cq
 l : kk + Q.length ≤ RR.length
 n : RR ≠ []
 d : RR.drop kk = sR Q ∨ (Q = [] ∧ cq = 0)
theorem BufI.hd {RR : List (List CV)} {kk cq : Nat} {x y : Int} {Q : List Spot} (h : BufI RR kk ((x, y) :: Q) cq) : RR.drop kk = sR ((x, y) :: Q) ∧ RR[kk + 0]? = some [I x, I y] := by
 rcases h.d with e | ⟨e, _⟩
 ·refine ⟨e, ?_⟩
  have : (RR.drop kk)[0]? = some [I x, I y] := by rw [e]; rfl
  rwa [List.getElem?_drop] at this
 ·cases e
theorem BufI.pop {RR : List (List CV)} {kk cq : Nat} {x y : Int} {Q : List Spot} (h : BufI RR kk ((x, y) :: Q) cq) : BufI RR (kk + 1) Q (cq - 1) := by
 have h1 := h.c
 have h2 := h.l
 rw [List.length_cons] at h1 h2
 refine ⟨by omega, by omega, h.n, .inl ?_⟩
 rw [← List.drop_drop, h.hd.1]
 rfl
theorem BufI.pop0 {RR : List (List CV)} {kk : Nat} {x y : Int} {Q : List Spot} (h : BufI RR kk ((x, y) :: Q) 1) : Q = [] ∧ BufI RR kk Q 0 := by
 have h1 := h.c
 have h2 := h.l
 rw [List.length_cons] at h1 h2
 obtain rfl : Q = [] := List.eq_nil_of_length_eq_zero (by omega)
 exact ⟨rfl, by simp, by simp at h2 ⊢; omega, h.n, .inr ⟨rfl, rfl⟩⟩
theorem BufI.app {RR : List (List CV)} {kk cq : Nat} {Q : List Spot} (h : BufI RR kk Q cq) (M : List Spot) (hM : M ≠ []) : (kk + Q.length = RR.length ∨ cq < Q.length + (sR M).length) ∧ (RR.drop kk).take Q.length = sR Q ∧ ∀ (pre : List (List CV)) (c2 : Nat), (Q ++ M).length ≤ c2 → BufI (pre ++ sR Q ++ sR M) pre.length (Q ++ M) c2 := by
 have h2 := h.l
 have hM1 := List.length_pos_iff.2 hM
 refine ⟨?_, ?_, fun pre c2 hc => ⟨hc, ?_, ?_, .inl ?_⟩⟩
 ·rcases h.d with e | ⟨e, e2⟩
  ·have := congrArg List.length e
   rw [List.length_drop, List.length_map] at this
   omega
  ·right; rw [List.length_map]; omega
 ·rcases h.d with e | ⟨e, e2⟩
  ·rw [e, List.take_of_length_le (by simp)]
  ·rw [e]; rfl
 ·simp only [List.length_append, List.length_map]; omega
 ·intro e
  have := congrArg List.length e
  simp only [List.length_append, List.length_map, List.length_nil] at this
  omega
 ·rw [List.append_assoc, List.drop_left]
  exact List.map_append.symm
theorem prtS_nil {L : List Spot} : prtS L [] = ([], []) := rfl
theorem okR2 (l : List Spot) : ∀ row ∈ sR l, row.length = 2 ∧ ∀ u ∈ row, u.one = true := fun row h => by
 obtain ⟨q, _, rfl⟩ := List.mem_map.1 h
 refine ⟨rfl, fun u hu => ?_⟩
 simp only [List.mem_cons, List.not_mem_nil, or_false] at hu
 rcases hu with rfl | rfl <;> rfl
set_option maxHeartbeats 8000000 in
theorem partsof_v (va : Value) (c : Cel) (hc : RCel c) : ACalls Tryz.prog 60 [celA va c] [] fun u H => ∃ (v : Value) (l : List (Value × Cel)), u = .c (.r v (cR l)) ∧ l.map Prod.snd = partF c ∧ H = [] := by
 have hst5 : -1000000 ≤ c.st ∧ c.st ≤ 1000000 := by have := hc.st; omega
 have hbd : ∀ p ∈ covL c, (-10000000 ≤ p.1 ∧ p.1 ≤ 10000000) ∧ (-10000000 ≤ p.2 ∧ p.2 ≤ 10000000) := by
  have h1 := hc.st
  have h2 := hc.far
  have h3 := hc.h
  exact cov_bd (by omega) (by omega) (by omega) (by omega) fun r hr => (rcel_rows hc r hr).1
 have hLs : (covL c).Pairwise ltS := covL_sorted
 have hLn : (covL c).Nodup := covL_nodup
 have hLl : (covL c).length ≤ 40000 := by
  have h3 := hc.h
  have h4 := hc.w
  have := hitC_len (x := c.x.tdiv c.st) (M := 200) (rs := c.rows) (y := c.y.tdiv c.st) (fun r hr => by rw [(hc.row r hr).1]; exact h4)
  have h5 : c.rows.length * 200 ≤ 200 * 200 := Nat.mul_le_mul_right _ h3
  unfold covL
  omega
 have hpf : partF c = (partL (covL c)).map (prtC c.st) := rfl
 rw [hpf]
 refine acalls_of (N := 60) Tryz.func60 rfl rfl (by simp) fun E hE => ?_
 refine WA ?_
 refine WR ?_
 refine al_ef rfl (ef_call0 false (fun _ => setof_r va c hc) rfl .fn rfl (by decide) (by kernel_rfl) rfl (fun _ => C0 rfl) (by simp)) ?_
 rintro _ _ ⟨_, _, _, ⟨es0, ck0, hok0, rfl, rfl⟩, hF, hH⟩
 (refine NSU hF hH ?_; clear hF hH; rintro rfl rfl)
 refine WE ?_
 generalize covL c = L at *
 have hel : es0.length ≤ 900000 := by
  have := len_mem hok0.nk hLn hok0.hm
  rw [List.length_map] at this
  omega
 refine WA ?_
 refine WR ?_
 refine al_ef rfl (ef_call [1] (fun _ => [mpS es0 ck0]) false (fun _ => sorted_v es0 ck0 L hok0 hLs hel) rfl .fn rfl (by decide) (by kernel_rfl) rfl ZCH (by decide) ZCH (by simp)) ?_
 rintro F1 H1 ⟨_, _, _, _, ⟨vs, rfl, rfl⟩, hF, hH⟩
 (refine NSU hF hH ?_; clear hF hH; rintro rfl rfl)
 refine WE ?_
 have e1 : (sR L).length = L.length := by simp
 refine aw_loopw (fun m F H => ∃ (i : Nat) (es : SE) (ck : Nat) (out : List (Value × Cel)) (cp : Nat), m + i = L.length ∧ SetOk es ck (L.filter fun q => !decide (q ∈ (prtS L (L.take i)).1)) ∧ out.map Prod.snd = (prtS L (L.take i)).2.map (prtC c.st) ∧ out.length ≤ i ∧ F = [(1, .p 0 0 0), (3, .mp 1), (4, .o 2 0 (cR out).length cp), (15, .c (.r vs (sR L))), (16, .c (I (sR L).length)), (17, .c (I i))] ∧ H = [celB va c, mpS es ck, .arr 28 4 cp (cR out)]) ?_ ?_
 ·refine wk_of [some 0, some 1, none] (fun _ => [(1, .p 0 0 0), (3, .mp 1), (4, .o 2 0 0 0), (15, .c (.r vs (sR L))), (16, .c (I (sR L).length)), (17, .c (I (0 : Nat)))]) (fun _ => [celB va c, mpS es0 ck0, .arr 28 4 0 []]) (by decide) (ZNL hE) ZCF ZCH (fun _ => ?_)
  refine ⟨L.length, 0, es0, ck0, [], 0, by omega, ?_, rfl, by simp, rfl, rfl⟩
  rw [List.take_zero, prtS_nil]
  exact hok0.to fun p => by simp
 rintro m F H ⟨i, es, ck, out, cp, hm, hok, hout, hol, rfl, rfl⟩
 refine WA ?_
 refine aw_if rfl (fun hlt => ?_) (fun hge => ?_)
 ·obtain ⟨⟨kx, ky⟩, hx⟩ : ∃ e, L[i]? = some e := ⟨_, List.getElem?_eq_getElem (by omega)⟩
  have hrow : (sR L)[i]? = some [I kx, I ky] := by rw [List.getElem?_map, hx]; rfl
  have hkL : (kx, ky) ∈ L := List.mem_of_getElem? hx
  have htk : L.take (i + 1) = L.take i ++ [(kx, ky)] := by rw [List.take_add_one, hx]; rfl
  have hps := prtS_snoc (L := L) (A := L.take i) (p := (kx, ky))
  rw [← htk] at hps
  have hpk := prtS_ok (L := L) (A := L.take i) rfl fun q hq => List.mem_of_mem_take hq
  have hclo := hpk.clo
  clear hpk
  generalize prtS L (L.take i) = G at *
  obtain ⟨bb, hbb⟩ : ∃ b, decide ((kx, ky) ∈ L.filter fun q => !decide (q ∈ G.1)) = b := ⟨_, rfl⟩
  refine WA ?_
  refine ZR ?_
  iterate 2 refine WX1 ?_
  refine ZA (rd_lookPq (l := es) hbb hok keyP rfl Tryz.underlying90 (by kernel_rfl) rfl rfl rfl) ?_
  refine WE ?_
  cases bb with
  | false =>
   have hin : (kx, ky) ∈ G.1 := by simpa [hkL] using hbb
   rw [if_pos hin] at hps
   refine aw_cond_t rfl ?_
   refine WA ?_
   refine wk_of [some 0, some 1, some 2] (fun _ => [(1, .p 0 0 0), (3, .mp 1), (4, .o 2 0 (cR out).length cp), (15, .c (.r vs (sR L))), (16, .c (I (sR L).length)), (17, .c (I (i + 1 : Nat)))]) (fun _ => [celB va c, mpS es ck, .arr 28 4 cp (cR out)]) (by decide) (ZNL hE) ZCF ZCH (fun _ => ?_)
   exact ⟨m - 1, by omega, i + 1, es, ck, out, cp, by omega, by rw [hps]; exact hok, by rw [hps]; exact hout, by omega, rfl, rfl⟩
  | true =>
   have hnin : (kx, ky) ∉ G.1 := by simpa [hkL] using hbb
   rw [if_neg hnin] at hps
   refine aw_cond_f rfl ?_
   refine ZZ ?_
   refine aw_cut (fun F H => F = [(1, .p 0 0 0), (3, .mp 1), (4, .o 2 0 (cR out).length cp), (7, .mp 3), (8, .o 4 0 1 1), (15, .c (.r vs (sR L))), (16, .c (I (sR L).length)), (17, .c (I i))] ∧ H = [celB va c, mpS es ck, .arr 28 4 cp (cR out), mpS [] 0, .arr 87 2 1 [[I kx, I ky]]]) ?_ ?_ wk_aw
   ·refine ZZ ?_
    refine aw_regionM [[(1, none), (0, some [1]), (3, none), (2, some [3]), (4, none)], [(1, none), (2, some []), (0, some [1]), (3, none), (4, none)]] hMixed (by kernel_rfl) ?_
    focus
     refine WM ?_
     refine am_two (by rfl) (by rfl) (by rfl) ?_ ?_
     rotate_left
     iterate 1 refine WX3 ?_
     refine am_ef (i := 0) (by rfl) (by rfl) rfl rfl (ef_mkmap rfl rfl (by decide)) ?_
     rintro _ _ ⟨rfl, rfl⟩
     refine ⟨AGX, ?_⟩
     refine WN ?_
     rotate_right
     refine am_ef (i := 0) (by rfl) (by rfl) rfl rfl (ef_mkmap rfl rfl (by decide)) ?_
     rintro _ _ ⟨rfl, rfl⟩
     refine ⟨AGX, ?_⟩
     refine WN ?_
    all_goals (first
     | exact wk_of [some 0, some 1, some 2, some 4, some 5] (fun _ => [(1, .p 0 0 0), (3, .mp 1), (4, .o 2 0 (cR out).length cp), (7, .mp 3), (8, .o 4 0 1 1), (15, .c (.r vs (sR L))), (16, .c (I (sR L).length)), (17, .c (I i))]) (fun _ => [celB va c, mpS es ck, .arr 28 4 cp (cR out), mpS [] 0, .arr 87 2 1 [[I kx, I ky]]]) (by decide) (ZNL hE) ZCF ZCH (fun _ => ⟨rfl, rfl⟩)
     | exact wk_of [some 0, some 1, some 2, some 5, some 4] (fun _ => [(1, .p 0 0 0), (3, .mp 1), (4, .o 2 0 (cR out).length cp), (7, .mp 3), (8, .o 4 0 1 1), (15, .c (.r vs (sR L))), (16, .c (I (sR L).length)), (17, .c (I i))]) (fun _ => [celB va c, mpS es ck, .arr 28 4 cp (cR out), mpS [] 0, .arr 87 2 1 [[I kx, I ky]]]) (by decide) (ZNL hE) ZCF ZCH (fun _ => ⟨rfl, rfl⟩))
   rintro F H ⟨rfl, rfl⟩
   refine ZZ ?_
   refine aw_loopw (fun m2 F H => ∃ (es2 : SE) (ck2 : Nat) (R : List Spot) (es3 : SE) (ck3 : Nat) (T : List Spot) (RR : List (List CV)) (kk : Nat) (Q : List Spot) (nq cq cpt : Nat), m2 = 5 * R.length + Q.length ∧ m2 ≤ 1000000 ∧ nq = Q.length ∧ SetOk es2 ck2 R ∧ SetOk es3 ck3 T ∧ FldI L G.1 (kx, ky) R T Q ∧ BufI RR kk Q cq ∧ F = [(1, .p 0 0 0), (3, .mp 1), (4, .o 2 0 (cR out).length cp), (7, .mp 3), (8, .o 4 kk nq cq), (15, .c (.r vs (sR L))), (16, .c (I (sR L).length)), (17, .c (I i))] ∧ H = [celB va c, mpS es2 ck2, .arr 28 4 cp (cR out), mpS es3 ck3, .arr 87 2 cpt RR]) ?_ ?_
   ·refine wk_of [some 0, some 1, some 2, some 3, some 4] (fun _ => [(1, .p 0 0 0), (3, .mp 1), (4, .o 2 0 (cR out).length cp), (7, .mp 3), (8, .o 4 0 1 1), (15, .c (.r vs (sR L))), (16, .c (I (sR L).length)), (17, .c (I i))]) (fun _ => [celB va c, mpS es ck, .arr 28 4 cp (cR out), mpS [] 0, .arr 87 2 1 [[I kx, I ky]]]) (by decide) (ZNL hE) ZCF ZCH (fun _ => ?_)
    have hfl := List.length_filter_le (fun q => !decide (q ∈ G.1)) L
    refine ⟨_, es, ck, _, [], 0, [], [[I kx, I ky]], 0, [(kx, ky)], 1, 1, 1, rfl, by simp only [List.length_singleton]; omega, rfl, hok, .nil, ⟨fun p => by simp [List.mem_filter], fun p h => (by cases h), fun p h => (by cases h), fun q hq hL => ?_, .inr (by simp)⟩, ⟨by simp, by simp, by simp, .inl rfl⟩, rfl, rfl⟩
    rw [List.mem_singleton] at hq
    rw [hq]; exact .here hkL
   rintro m2 F H ⟨es2, ck2, R, es3, ck3, T, RR, kk, Q, nq, cq, cpt, hm2, hmM, hnq, hok2, hok3, hF, hB, rfl, rfl⟩
   refine WA ?_
   refine aw_if rfl (fun hlt2 => ?_) (fun hge2 => ?_)
   ·obtain ⟨x, y, Q, rfl⟩ : ∃ x y Q', Q = (x, y) :: Q' := by
     cases Q with
     | nil => simp at hnq; omega
     | cons a l => exact ⟨a.1, a.2, l, rfl⟩
    rw [List.length_cons] at hnq hm2
    subst hnq
    obtain ⟨hdr, hrq⟩ := hB.hd
    refine ZR ?_
    refine WX1 ?_
    refine ZA (rd_index (i := 0) rfl (KE (t := 171) rfl) rfl rfl rfl rfl (by omega)) ?_
    refine WE ?_
    refine aw_cut (fun F H => ∃ kk2 cq2, BufI RR kk2 Q cq2 ∧ F = [(1, .p 0 0 0), (3, .mp 1), (4, .o 2 0 (cR out).length cp), (7, .mp 3), (8, .o 4 kk2 Q.length cq2), (9, .p 5 0 0), (15, .c (.r vs (sR L))), (16, .c (I (sR L).length)), (17, .c (I i))] ∧ H = [celB va c, mpS es2 ck2, .arr 28 4 cp (cR out), mpS es3 ck3, .arr 87 2 cpt RR, .box [.c (I x), .c (I y)]]) ?_ ?_ wk_aw
    ·have hcq := hB.c
     rw [List.length_cons] at hcq
     by_cases h1 : cq = 1
     ·subst h1
      obtain ⟨hq0, hB0⟩ := hB.pop0
      have hq1 : Q.length = 0 := by rw [hq0]; rfl
      refine ZR ?_
      refine WX1 ?_
      refine ZA (rd_slice0 (l := 1) (h := Q.length + 1) rfl (KE (t := 171) rfl) rfl rfl (.inr ⟨_, _, _, rfl, rfl, rfl⟩) (.inl ⟨rfl, rfl⟩) (by omega) (Nat.le_refl _) rfl (by decide)) ?_
      refine WE ?_
      refine wk_of [some 0, some 1, some 2, some 3, some 4, some 5] (fun _ => [(1, .p 0 0 0), (3, .mp 1), (4, .o 2 0 (cR out).length cp), (7, .mp 3), (8, .o 4 kk 0 0), (9, .p 5 0 0), (15, .c (.r vs (sR L))), (16, .c (I (sR L).length)), (17, .c (I i))]) (fun _ => [celB va c, mpS es2 ck2, .arr 28 4 cp (cR out), mpS es3 ck3, .arr 87 2 cpt RR, .box [.c (I x), .c (I y)]]) (by decide) (ZNL hE) ZCF ZCH (fun _ => ?_)
      exact ⟨kk, 0, hB0, by rw [hq1], rfl⟩
     ·have h2 : 1 < cq := by omega
      refine ZR ?_
      refine WX1 ?_
      refine ZA (rd_slice (l := 1) (h := Q.length + 1) rfl (KE (t := 171) rfl) rfl rfl (.inr ⟨_, _, _, rfl, rfl, rfl⟩) (.inl ⟨rfl, rfl⟩) (by omega) (Nat.le_refl _) (by omega)) ?_
      refine WE ?_
      refine wk_of [some 0, some 1, some 2, some 3, some 4, some 5] (fun _ => [(1, .p 0 0 0), (3, .mp 1), (4, .o 2 0 (cR out).length cp), (7, .mp 3), (8, .o 4 (kk + 1) (Q.length + 1 - 1) (cq - 1)), (9, .p 5 0 0), (15, .c (.r vs (sR L))), (16, .c (I (sR L).length)), (17, .c (I i))]) (fun _ => [celB va c, mpS es2 ck2, .arr 28 4 cp (cR out), mpS es3 ck3, .arr 87 2 cpt RR, .box [.c (I x), .c (I y)]]) (by decide) (ZNL hE) ZCF ZCH (fun _ => ?_)
      exact ⟨kk + 1, cq - 1, hB.pop, by rw [Nat.add_sub_cancel], rfl⟩
    clear hdr hrq hB hlt2
    rintro F H ⟨kk2, cq2, hB, rfl, rfl⟩
    refine ZZ ?_
    obtain ⟨b2, hb2⟩ : ∃ b, decide ((x, y) ∈ R) = b := ⟨_, rfl⟩
    refine ZR ?_
    iterate 2 refine WX1 ?_
    refine ZA (rd_lookPq (l := es2) hb2 hok2 keyP rfl Tryz.underlying90 (by kernel_rfl) rfl rfl rfl) ?_
    refine WE ?_
    cases b2 with
    | false =>
     have hxR : (x, y) ∉ R := by simpa using hb2
     refine aw_cond_f rfl ?_
     refine ZZ ?_
     refine wk_of [some 0, some 1, some 2, some 3, some 4] (fun _ => [(1, .p 0 0 0), (3, .mp 1), (4, .o 2 0 (cR out).length cp), (7, .mp 3), (8, .o 4 kk2 Q.length cq2), (15, .c (.r vs (sR L))), (16, .c (I (sR L).length)), (17, .c (I i))]) (fun _ => [celB va c, mpS es2 ck2, .arr 28 4 cp (cR out), mpS es3 ck3, .arr 87 2 cpt RR]) (by decide) (ZNL hE) ZCF ZCH (fun _ => ?_)
     exact ⟨5 * R.length + Q.length, by omega, es2, ck2, R, es3, ck3, T, RR, kk2, Q, _, cq2, cpt, rfl, by omega, rfl, hok2, hok3, hF.miss hkL hnin hxR, hB, rfl, rfl⟩
    | true =>
     have hxR : (x, y) ∈ R := by simpa using hb2
     have hbx := hbd (x, y) ((hF.r _).1 hxR).1
     simp only at hbx
     replace hbx : (-100000000 ≤ x ∧ x ≤ 100000000) ∧ (-100000000 ≤ y ∧ y ≤ 100000000) := by omega
     obtain ⟨hap1, hap2, hap3⟩ := hB.app (nb4 x y) (by simp)
     have hap0 := hB.n
     have hap4 := hB.l
     have hfl : (R.filter fun q => !decide (q = (x, y))).length < R.length := by
      have := List.length_filter_lt_length_iff_exists (p := fun q => !decide (q = (x, y))) (l := R)
      exact this.2 ⟨(x, y), hxR, by simp⟩
     have hok2' := hok2.del (x, y)
     have hok3' := hok3.set (x, y)
     refine aw_cond_t rfl ?_
     refine ZR ?_
     iterate 2 refine WX1 ?_
     refine al_ef rfl (ef_mapdel (ke := encP) (ve := encT) (k := (x, y)) (l := es2) (ck := ck2) keyP rfl rfl Tryz.underlying90 rfl rfl rfl (fun ρ H => by simp [AV.den, AV.denL, CV.den, encP])) ?_
     rintro _ _ ⟨rfl, rfl⟩
     refine WE ?_
     refine ZR ?_
     iterate 2 refine WX1 ?_
     refine al_ef rfl (ef_setP (p := x) (q := y) (l := es3) (ck := ck3) keyP rfl rfl Tryz.underlying90 rfl rfl rfl rfl) ?_
     rintro _ _ ⟨rfl, rfl⟩
     refine WE ?_
     refine WR ?_
     refine al_ef rfl (ef_call0 false (fun _ => neighb_v x y hbx.1 hbx.2) rfl .fn rfl (by decide) (by kernel_rfl) rfl (fun _ => C0 rfl) (by simp)) ?_
     rintro _ _ ⟨_, _, _, ⟨vn, rfl, rfl⟩, hF, hH⟩
     (refine NST hF hH ?_; clear hF hH; rintro rfl rfl)
     refine al_ef rfl (ef_appkn (j := 4) (mid := sR Q) (news := sR (nb4 x y)) hap1 hap2 hap0 (by simp) rfl rfl rfl (by decide) (KA (t := 171) rfl) rfl rfl hap4 rfl (.ro (fun r h => (okR2 (nb4 x y) r h).1) (fun r h => (okR2 (nb4 x y) r h).2)) (by omega) (fun _ => rfl) (by intro g cap2 pre; simp only [List.map_cons, List.map_nil, killO, killV, AV.has, AV.hasL, List.contains_cons, List.contains_nil, Nat.reduceBEq, Bool.or_false, Bool.false_or, Bool.false_eq_true, beq_self_eq_true, if_false, if_true, List.set_cons_zero, List.set_cons_succ, List.nil_append]; rfl)) ?_
     rintro _ _ ⟨_, c2, cap2, pre, hc2, rfl, rfl⟩
     refine WE ?_
     refine wk_of [some 0, some 1, some 2, some 3, some 4] (fun _ => [(1, .p 0 0 0), (3, .mp 1), (4, .o 2 0 (cR out).length cp), (7, .mp 3), (8, .o 4 pre.length (Q.length + 4) c2), (15, .c (.r vs (sR L))), (16, .c (I (sR L).length)), (17, .c (I i))]) (fun _ => [celB va c, mpS (mdel (x, y) es2) ck2, .arr 28 4 cp (cR out), mpS (mset ck3 (x, y) true es3) (mclk ck3 (x, y) es3), .arr 87 2 cap2 (pre ++ sR Q ++ sR (nb4 x y))]) (by decide) (ZNL hE) ZCF ZCH (fun _ => ?_)
     have hql : (Q ++ nb4 x y).length = Q.length + 4 := by simp
     exact ⟨5 * (R.filter fun q => !decide (q = (x, y))).length + (Q ++ nb4 x y).length, by omega, _, _, _, _, _, _, _, _, Q ++ nb4 x y, _, c2, cap2, rfl, by omega, hql.symm, hok2', hok3', hF.hit hxR, hap3 pre c2 (by omega), rfl, rfl⟩
   obtain rfl : Q = [] := List.eq_nil_of_length_eq_zero (by omega)
   have hTk := hF.fin hclo
   have hTg : ∀ p, p ∈ T ↔ p ∈ gangL L (kx, ky) := fun p => (hTk p).trans gangL_mem.symm
   have hbT : ∀ p ∈ T, (-10000000 ≤ p.1 ∧ p.1 ≤ 10000000) ∧ (-10000000 ≤ p.2 ∧ p.2 ≤ 10000000) := fun p hp => hbd p ((hTk p).1 hp).mem
   have hnc : prtC c.st (gangL L (kx, ky)) = (normC c.st T).1 := by unfold prtC; rw [normC_mem hTg]
   have hRn : ∀ p, p ∈ R ↔ p ∈ L.filter fun q => !decide (q ∈ G.1 ++ gangL L (kx, ky)) := fun p => by
    rw [hF.r, List.mem_filter]
    simp only [Bool.not_eq_true', decide_eq_false_iff_not, List.mem_append, not_or, hTg]
   refine ZZ ?_
   refine WR ?_
   refine al_ef rfl (ef_call [3] (fun _ => [mpS es3 ck3]) false (fun _ => cellsof_v es3 ck3 _ hok3 c.st hst5 hbT) rfl .fn rfl (by decide) (by kernel_rfl) rfl ZCH (by decide) ZCH (by simp)) ?_
   rintro F1 H1 ⟨_, _, _, _, ⟨v', rfl, rfl⟩, hF, hH⟩
   (refine NSU hF hH ?_; clear hF hH; rintro rfl rfl)
   refine WE ?_
   generalize normC c.st T = NC at *
   have eo : (cR out).length = out.length := by simp
   refine WR ?_
   refine al_ef rfl (Zapp (KA (t := 76) rfl)) ?_
   rintro _ _ ⟨_, cc, hcc, rfl, rfl⟩
   refine WE ?_
   refine WA ?_
   refine wk_of [some 0, some 1, some 2] (fun _ => [(1, .p 0 0 0), (3, .mp 1), (4, .o 2 0 (cR (out ++ [(v', NC.1)])).length cc), (15, .c (.r vs (sR L))), (16, .c (I (sR L).length)), (17, .c (I (i + 1 : Nat)))]) (fun _ => [celB va c, mpS es2 ck2, .arr 28 4 cc (cR (out ++ [(v', NC.1)]))]) (by decide) (ZNL hE) ZCF ZCH (fun _ => ?_)
   exact ⟨m - 1, by omega, i + 1, es2, ck2, out ++ [(v', NC.1)], cc, by omega, by rw [hps]; exact hok2.to hRn, by rw [hps, List.map_append, List.map_append, hout]; simp [hnc], by simp; omega, rfl, rfl⟩
 obtain rfl : i = L.length := by omega
 rw [List.take_length] at hout
 refine ZZ ?_
 refine WA ?_
 exact aret_f1 [] _ rfl rfl rfl rfl (by rw [List.drop_zero, List.take_of_length_le (by simp)]) (by simp) rfl (by decide) (ZNK rfl) (fun _ => .nil) (fun q => ⟨q, out, rfl, hout, rfl⟩)
end Go.Proofs.YtfilfijammemfaaGreatDoor

/- The program's Quarter and Bridges, by value. -/
-- NEWM
namespace Go.Proofs.YtfilfijammemfaaGreatDoor
open Go Go.RowKit
set_option maxRecDepth 100000
structure PrtR (c : Cel) : Prop where
 n : (partF c).length ≤ 100000
 r : ∀ d ∈ partF c, RCel d ∧ d.st = c.st ∧ covL d ≠ []
theorem prt_r {b c : Cel} (hb : NCel b) (h : RCel c) (hs : c.st = b.st) (hsub : ∀ p ∈ covL c, p ∈ covL b) : PrtR c := by
 have hst : 0 < c.st := by have := h.st; omega
 have hok := partL_ok (covL c)
 refine ⟨?_, fun d hd => ?_⟩
 ·have h1 := hok.len
  have h2 : (covL c).length ≤ 40000 := by
   have h3 := h.h
   have h4 := h.w
   have := hitC_len (x := c.x.tdiv c.st) (M := 200) (rs := c.rows) (y := c.y.tdiv c.st) (fun r hr => by rw [(h.row r hr).1]; exact h4)
   have h5 : c.rows.length * 200 ≤ 200 * 200 := Nat.mul_le_mul_right _ h3
   unfold covL
   omega
  unfold partF partL
  rw [List.length_map]
  omega
 ·obtain ⟨X, hX, rfl⟩ := List.mem_map.1 hd
  obtain ⟨h1, k, hk, rfl⟩ := hok.part X hX
  have h2 := normC_ok hb (L := gangL (covL c) k) fun p hp => hsub p (gangL_sub p hp)
  unfold prtC
  rw [hs, h2.1]
  refine ⟨h2.2, celN_st _ _, fun e => h1 ?_⟩
  exact List.eq_nil_iff_forall_not_mem.2 fun q hq => by
   have := (covL_celN (st := b.st) (by omega) (L := gangL (covL c) k) (p := q)).2 hq
   rw [e] at this; cases this
end Go.Proofs.YtfilfijammemfaaGreatDoor

/- The reference's plan: the walls of its first filling stay an array of the call's own. -/
-- NEWM
namespace Go.Proofs.YtfilfijammemfaaGreatDoor
open Go Go.RowKit
set_option maxRecDepth 100000
end Go.Proofs.YtfilfijammemfaaGreatDoor
