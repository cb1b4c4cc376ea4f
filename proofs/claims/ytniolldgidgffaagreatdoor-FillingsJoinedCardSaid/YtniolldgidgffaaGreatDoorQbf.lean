/- The reference's walls, by value: WallsOf. -/
import Derived.Test.YtniolldgidgffaaGreatDoorQbe
set_option linter.unusedSimpArgs false
set_option linter.unusedVariables false
/- The reference's cells that are so, by value: these. -/
-- NEWM
namespace Go.Proofs.YtniolldgidgffaaGreatDoor
open Go Go.RowKit
set_option maxRecDepth 100000
theorem at_cov2 {c : Cel} {i k : Nat} {r : List UInt8} {b : UInt8} (h1 : c.rows[i]? = some r) (h2 : r[k]? = some b) : ((c.x.tdiv c.st + (k : Nat), c.y.tdiv c.st + (i : Nat)) : Spot) ∈ covL c ↔ b = 35 := by
 unfold covL
 rw [hitC_mem]
 constructor
 ·rintro ⟨i', k', r', q1, q2, e⟩
  obtain ⟨e1, e2⟩ := Prod.mk.inj e
  obtain rfl : i = i' := by omega
  obtain rfl : k = k' := by omega
  rw [h1] at q1
  obtain rfl := Option.some.inj q1
  rw [h2] at q2
  exact Option.some.inj q2
 ·rintro rfl; exact ⟨i, k, r, h1, h2, rfl⟩
theorem covL_rowsB {st x y : Int} {L : List Spot} {w h : Nat} (hL : ∀ p ∈ L, x.tdiv st ≤ p.1 ∧ p.1 < x.tdiv st + w ∧ y.tdiv st ≤ p.2 ∧ p.2 < y.tdiv st + h) {p : Spot} : p ∈ covL ⟨st, x, y, rowsB L (x.tdiv st) (y.tdiv st) w h⟩ ↔ p ∈ L := by
 unfold covL
 rw [hitC_mem]
 simp only
 constructor
 ·rintro ⟨i, k, r, h1, h2, rfl⟩
  unfold rowsB at h1
  rw [List.getElem?_map] at h1
  obtain ⟨i', hi, rfl⟩ := Option.map_eq_some_iff.1 h1
  obtain rfl : i = i' := by have := List.getElem?_eq_some_iff.1 hi; simpa using this.2
  unfold rowB at h2
  rw [List.getElem?_map] at h2
  obtain ⟨k', hk, h3⟩ := Option.map_eq_some_iff.1 h2
  obtain rfl : k = k' := by have := List.getElem?_eq_some_iff.1 hk; simpa using this.2
  split at h3
  ·assumption
  ·cases h3
 ·intro hp
  obtain ⟨g1, g2, g3, g4⟩ := hL p hp
  obtain ⟨a, b⟩ := p
  simp only at g1 g2 g3 g4
  refine ⟨(b - y.tdiv st).toNat, (a - x.tdiv st).toNat, rowB L (x.tdiv st) (y.tdiv st + ((b - y.tdiv st).toNat : Nat)) w, ?_, ?_, ?_⟩
  ·unfold rowsB; rw [List.getElem?_map, List.getElem?_range (by omega)]; rfl
  ·exact rowB_at (by omega) (by rw [show x.tdiv st + ((a - x.tdiv st).toNat : Int) = a by omega, show y.tdiv st + ((b - y.tdiv st).toNat : Int) = b by omega]; exact hp)
  ·rw [show x.tdiv st + ((a - x.tdiv st).toNat : Int) = a by omega, show y.tdiv st + ((b - y.tdiv st).toNat : Int) = b by omega]
mutual
theorem clo_has1 (b : List Nat) : ∀ x : AV, x.clo = true → x.has b = false
 | .c _, _ => rfl
 | .q .., _ => rfl
 | .a l, h => by rw [AV.has]; exact clo_has b l (by rw [AV.clo] at h; exact h)
 | .t l, h => by rw [AV.has]; exact clo_has b l (by rw [AV.clo] at h; exact h)
 | .f _ l, h => by rw [AV.has]; exact clo_has b l (by rw [AV.clo] at h; exact h)
 | .p .., h => by simp [AV.clo] at h
 | .o .., h => by simp [AV.clo] at h
 | .mp .., h => by simp [AV.clo] at h
theorem clo_has (b : List Nat) : ∀ l : List AV, AV.cloL l = true → AV.hasL b l = false
 | [], _ => rfl
 | x :: l, h => by
  rw [AV.cloL] at h
  split at h
  ·rename_i hx; rw [AV.hasL, clo_has1 b x hx, clo_has b l h]; rfl
  ·cases h
end
set_option maxHeartbeats 4000000 in
theorem these_v (fn : FuncId) (caps : List AV) (hcl : AV.cloL caps = true) (hfn : okFn Tryz.prog fn = true) (f : Spot → Bool) (va : Value) (c : Cel) (h : RCel c) (hf : ∀ x y : Int, (x, y) ∈ covL c → ACalls Tryz.prog fn ([.a [.c (I x), .c (I y)]] ++ caps) [] fun u H => u = .c (B (f (x, y))) ∧ H = []) : ACalls Tryz.prog 100 [celA va c, .f (.func fn) caps] [] fun u H => ∃ v', u = celA v' (normC c.st ((covL c).filter f)).1 ∧ H = [] := by
 have hst := h.st
 have hx2 := h.far.1
 have hy2 := h.far.2
 have hw := h.w
 have hh := h.h
 have hst2 : 1 ≤ c.st ∧ c.st ≤ 1000000 := by omega
 have hx5 : -1000000000000 ≤ c.x ∧ c.x ≤ 1000000000000 := by omega
 have hy5 : -1000000000000 ≤ c.y ∧ c.y ≤ 1000000000000 := by omega
 have hr5 : ∀ r ∈ c.rows, r.length ≤ 10000 := fun r hr => by rw [(h.row r hr).1]; omega
 have hX := tdiv_bd hst2.1 hx2
 have hY := tdiv_bd hst2.1 hy2
 have e1 : (tR c.rows).length = c.rows.length := by simp
 have hat := @at_cov2 c
 have hin : ∀ p ∈ (covL c).filter f, c.x.tdiv c.st ≤ p.1 ∧ p.1 < c.x.tdiv c.st + (wid c.rows : Nat) ∧ c.y.tdiv c.st ≤ p.2 ∧ p.2 < c.y.tdiv c.st + (c.rows.length : Nat) := fun p hp => by
  have := covL_in h (List.mem_filter.1 hp).1
  omega
 have hfin : (normC c.st (covL ⟨c.st, c.x, c.y, rowsB ((covL c).filter f) (c.x.tdiv c.st) (c.y.tdiv c.st) (wid c.rows) c.rows.length⟩)).1 = (normC c.st ((covL c).filter f)).1 := by
  rw [normC_mem fun p => covL_rowsB hin]
 have hmf : ∀ q, q ∈ (covL c).filter f ↔ q ∈ covL c ∧ f q = true := fun q => List.mem_filter
 have hLl : (covL c).length ≤ 1000000000 := by
  have := hitC_len (x := c.x.tdiv c.st) (y := c.y.tdiv c.st) hr5
  have h3 := Nat.mul_le_mul_right 10000 hh
  show (hitC (c.x.tdiv c.st) (c.y.tdiv c.st) c.rows).length ≤ _
  omega
 generalize hLf : (covL c).filter f = Lf at *
 generalize hLL : covL c = L at *
 refine acalls_of (N := 76) Tryz.func100 rfl rfl (by simp) fun E hE => ?_
 refine WA ?_
 refine WA ?_
 refine WR ?_
 refine al_ef rfl (ef_call0 false (fun _ => places_v va c (by omega) hx5 hy5 (by omega) hr5) rfl .fn rfl (by decide) (by kernel_rfl) rfl (fun _ => C0 rfl) (by simp)) ?_
 rintro _ _ ⟨_, _, _, ⟨vp, rfl, rfl⟩, hF, hH⟩
 rw [hLL] at hF
 (refine NST hF hH ?_; clear hF hH; rintro rfl rfl)
 refine WE ?_
 refine WA ?_
 refine aw_loopw (fun m F H => ∃ (i cp : Nat), m + i = c.rows.length ∧ F = [(1, .f (.func fn) caps), (2, .p 0 0 0), (4, .p 1 0 0), (5, .p 2 0 0), (6, .c (.r vp (sR L))), (22, .c (.r va (tR c.rows))), (23, .c (I (tR c.rows).length)), (24, .c (I i))] ∧ H = [celB va c, .box [.c (I 0), .c (I 0), .c (I 0), .c (.r (.slice none 0 0) [])], .box [.c (I c.st), .c (I c.x), .c (I c.y), .o 3 0 (rowsB Lf (c.x.tdiv c.st) (c.y.tdiv c.st) (wid c.rows) i).length cp], .arr 9 1 cp (tR (rowsB Lf (c.x.tdiv c.st) (c.y.tdiv c.st) (wid c.rows) i))]) ?_ ?_
 ·refine wk_of [some 0, some 1, some 2, none] (fun _ => [(1, .f (.func fn) caps), (2, .p 0 0 0), (4, .p 1 0 0), (5, .p 2 0 0), (6, .c (.r vp (sR L))), (22, .c (.r va (tR c.rows))), (23, .c (I (tR c.rows).length)), (24, .c (I (0 : Nat)))]) (fun _ => [celB va c, .box [.c (I 0), .c (I 0), .c (I 0), .c (.r (.slice none 0 0) [])], .box [.c (I c.st), .c (I c.x), .c (I c.y), .o 3 0 0 0], .arr 9 1 0 (tR [])]) (by decide) (ZNL hE) ZCF ZCH (fun _ => ?_)
  exact ⟨c.rows.length, 0, 0, by omega, rfl, rfl⟩
 rintro m F H ⟨i, cp, hi, rfl, rfl⟩
 have hsl := rowsB_len Lf (c.x.tdiv c.st) (c.y.tdiv c.st) (wid c.rows) i
 refine WA ?_
 refine aw_if rfl (fun hlt => ?_) (fun hge => ?_)
 ·obtain ⟨r, hri⟩ : ∃ r, c.rows[i]? = some r := ⟨_, List.getElem?_eq_getElem (by omega)⟩
  have hrow : (tR c.rows)[i]? = some [T r] := by rw [List.getElem?_map, hri]; rfl
  have hrl := (h.row r (List.mem_of_getElem? hri)).1
  have hsn := rowsB_succ Lf (c.x.tdiv c.st) (c.y.tdiv c.st) (wid c.rows) i
  generalize hRr : rowsB Lf (c.x.tdiv c.st) (c.y.tdiv c.st) (wid c.rows) i = R at *
  refine WA ?_
  refine ZR ?_
  refine WX1 ?_
  refine al_ef rfl (ef_cvsb rfl Tryz.underlying9 Tryz.underlying232 Tryz.underlying5 rfl (by decide) rfl) ?_
  rintro _ _ ⟨vb, rfl, rfl⟩
  refine WE ?_
  refine ZR ?_
  refine WX1 ?_
  refine ZA (rd_lenb (b := 4) rfl (KE (t := 232) rfl) rfl rfl) ?_
  refine WE ?_
  refine aw_loopw (fun m2 F H => ∃ (k : Nat), m2 + k = r.length ∧ F = [(1, .f (.func fn) caps), (2, .p 0 0 0), (4, .p 1 0 0), (5, .p 2 0 0), (6, .c (.r vp (sR L))), (7, .c (I i)), (8, .c (T r)), (9, .c (.s vb)), (22, .c (.r va (tR c.rows))), (23, .c (I (tR c.rows).length)), (24, .c (I i)), (32, .c (I r.length)), (33, .c (I k))] ∧ H = [celB va c, .box [.c (I 0), .c (I 0), .c (I 0), .c (.r (.slice none 0 0) [])], .box [.c (I c.st), .c (I c.x), .c (I c.y), .o 3 0 R.length cp], .arr 9 1 cp (tR R), .bts vb (rowB Lf (c.x.tdiv c.st) (c.y.tdiv c.st + (i : Nat)) k ++ r.drop k)]) ?_ ?_
  ·refine wk_of [some 0, some 1, some 2, some 3, some 4] (fun _ => [(1, .f (.func fn) caps), (2, .p 0 0 0), (4, .p 1 0 0), (5, .p 2 0 0), (6, .c (.r vp (sR L))), (7, .c (I i)), (8, .c (T r)), (9, .c (.s vb)), (22, .c (.r va (tR c.rows))), (23, .c (I (tR c.rows).length)), (24, .c (I i)), (32, .c (I r.length)), (33, .c (I (0 : Nat)))]) (fun _ => [celB va c, .box [.c (I 0), .c (I 0), .c (I 0), .c (.r (.slice none 0 0) [])], .box [.c (I c.st), .c (I c.x), .c (I c.y), .o 3 0 R.length cp], .arr 9 1 cp (tR R), .bts vb r]) (by decide) (ZNL hE) ZCF ZCH (fun _ => ?_)
   exact ⟨r.length, 0, by omega, rfl, rfl⟩
  rintro m2 F H ⟨k, hk, rfl, rfl⟩
  have hrs := rowB_succ Lf (c.x.tdiv c.st) (c.y.tdiv c.st + (i : Nat)) k
  have hrk := rowB_len Lf (c.x.tdiv c.st) (c.y.tdiv c.st + (i : Nat)) k
  by_cases hkl : k < r.length
  ·obtain ⟨b, hb⟩ : ∃ b, r[k]? = some b := ⟨_, List.getElem?_eq_getElem hkl⟩
   have hdr : r.drop k = b :: r.drop (k + 1) := by
    obtain ⟨h1, h2⟩ := List.getElem?_eq_some_iff.1 hb
    rw [List.drop_eq_getElem_cons h1, h2]
   have hmem := hat hri hb
   have hmf2 := hmf (c.x.tdiv c.st + (k : Nat), c.y.tdiv c.st + (i : Nat))
   generalize hP : rowB Lf (c.x.tdiv c.st) (c.y.tdiv c.st + (i : Nat)) k = P at *
   generalize hD : r.drop (k + 1) = D at *
   rw [hdr]
   have hset : ∀ z y : UInt8, (P ++ z :: D).set k y = P ++ y :: D := fun z y => by
    rw [List.set_append_right _ _ (by omega), hrk, Nat.sub_self]; rfl
   have hlen : ∀ z : UInt8, k < (P ++ z :: D).length := fun z => by rw [List.length_append, List.length_cons]; omega
   have hnext : P ++ (if (c.x.tdiv c.st + (k : Nat), c.y.tdiv c.st + (i : Nat)) ∈ Lf then 35 else 46) :: D = rowB Lf (c.x.tdiv c.st) (c.y.tdiv c.st + (i : Nat)) (k + 1) ++ D := by rw [hrs, List.append_assoc]; rfl
   by_cases hb5 : b = 35
   ·have hL5 := hmem.2 hb5
    have hfs := hf _ _ hL5
    have hcl2 : AV.cloL ([.a [.c (I (c.x.tdiv c.st + (k : Nat))), .c (I (c.y.tdiv c.st + (i : Nat)))]] ++ caps) = true := hcl
    obtain ⟨q, hfq⟩ : ∃ q, f (c.x.tdiv c.st + (k : Nat), c.y.tdiv c.st + (i : Nat)) = q := ⟨_, rfl⟩
    rw [hfq] at hmf2
    refine WA ?_
    refine aw_cond_t rfl ?_
    refine WA ?_
    refine ZZ ?_
    refine aw_regionT [(0, none), (1, none), (2, none), (3, none), (4, none), (5, none), (6, none), (7, none), (8, none), (9, none), (10, none), (11, none), (12, none), (13, none), (14, none), (15, some [0, 1, 2, 3, 4, 5, 6, 7, 8, 9, 10, 11, 12, 13, 14]), (16, some [])] hMixed (by kernel_rfl) ?_
    refine WQ ?_
    refine ZR ?_
    iterate 2 refine WX1 ?_
    refine ZA (rd_ixb (b := 4) (k := k) rfl (KE (t := 232) rfl) rfl rfl rfl rfl (hlen b)) ?_
    refine al_ef rfl (ef_stob (c := 46) rfl rfl (KS (t := 5) rfl) rfl rfl rfl (hlen b)) ?_
    rintro _ _ ⟨rfl, rfl⟩
    refine WE ?_
    rw [hset]
    refine WR ?_
    refine al_ef rfl (ef_call0 false (fun _ => haspl_v _ _ L vp hLl) rfl .fn rfl (by decide) (by kernel_rfl) rfl (fun _ => C0 rfl) (by simp)) ?_
    rintro _ _ ⟨_, _, _, ⟨rfl, rfl⟩, hF, hH⟩
    rw [decide_eq_true hL5] at hF
    (refine NST hF hH ?_; clear hF hH; rintro rfl rfl)
    refine WO ?_
    first | refine ZS ?_ | (refine G1 rfl ?_; refine al_ef rfl (ef_call0 false (fun _ => hfs) rfl (.clo rfl) rfl (by decide) hfn rfl (fun _ => C0 hcl2) (by simp)) ?_; rintro _ _ ⟨_, _, _, ⟨rfl, rfl⟩, hF, hH⟩; rw [hfq] at hF; (refine NST hF hH ?_; clear hF hH; rintro rfl rfl)) | skip
    refine WE ?_
    cases q with
    | true =>
     rw [if_pos (hmf2.2 ⟨hL5, rfl⟩)] at hnext
     refine aw_cond_t rfl ?_
     refine ZR ?_
     iterate 2 refine WX1 ?_
     refine ZA (rd_ixb (b := 4) (k := k) rfl (KE (t := 232) rfl) rfl rfl rfl rfl (hlen 46)) ?_
     refine al_ef rfl (ef_stob (c := 35) rfl rfl (KS (t := 5) rfl) rfl rfl rfl (hlen 46)) ?_
     rintro _ _ ⟨rfl, rfl⟩
     refine WE ?_
     rw [hset]
     refine WA ?_
     refine wk_of [some 0, some 1, some 2, some 3, some 4] (fun _ => [(1, .f (.func fn) caps), (2, .p 0 0 0), (4, .p 1 0 0), (5, .p 2 0 0), (6, .c (.r vp (sR L))), (7, .c (I i)), (8, .c (T r)), (9, .c (.s vb)), (22, .c (.r va (tR c.rows))), (23, .c (I (tR c.rows).length)), (24, .c (I i)), (32, .c (I r.length)), (33, .c (I (k + 1 : Nat)))]) (fun _ => [celB va c, .box [.c (I 0), .c (I 0), .c (I 0), .c (.r (.slice none 0 0) [])], .box [.c (I c.st), .c (I c.x), .c (I c.y), .o 3 0 R.length cp], .arr 9 1 cp (tR R), .bts vb (P ++ 35 :: D)]) (by decide) (ZNL hE) ZCF ZCH (fun _ => ?_)
     exact ⟨m2 - 1, by omega, k + 1, by omega, rfl, by rw [hnext, hD]⟩
    | false =>
     rw [if_neg (fun e => by cases (hmf2.1 e).2)] at hnext
     refine aw_cond_f rfl ?_
     refine ZZ ?_
     refine WA ?_
     refine wk_of [some 0, some 1, some 2, some 3, some 4] (fun _ => [(1, .f (.func fn) caps), (2, .p 0 0 0), (4, .p 1 0 0), (5, .p 2 0 0), (6, .c (.r vp (sR L))), (7, .c (I i)), (8, .c (T r)), (9, .c (.s vb)), (22, .c (.r va (tR c.rows))), (23, .c (I (tR c.rows).length)), (24, .c (I i)), (32, .c (I r.length)), (33, .c (I (k + 1 : Nat)))]) (fun _ => [celB va c, .box [.c (I 0), .c (I 0), .c (I 0), .c (.r (.slice none 0 0) [])], .box [.c (I c.st), .c (I c.x), .c (I c.y), .o 3 0 R.length cp], .arr 9 1 cp (tR R), .bts vb (P ++ 46 :: D)]) (by decide) (ZNL hE) ZCF ZCH (fun _ => ?_)
     exact ⟨m2 - 1, by omega, k + 1, by omega, rfl, by rw [hnext, hD]⟩
   ·have hL5 : ¬ (c.x.tdiv c.st + (k : Nat), c.y.tdiv c.st + (i : Nat)) ∈ L := fun e => hb5 (hmem.1 e)
    rw [if_neg (fun e => hL5 (hmf2.1 e).1)] at hnext
    refine WA ?_
    refine aw_cond_t rfl ?_
    refine WA ?_
    refine ZZ ?_
    refine aw_regionT [(0, none), (1, none), (2, none), (3, none), (4, none), (5, none), (6, none), (7, none), (8, none), (9, none), (10, none), (11, none), (12, none), (13, none), (14, none), (15, some [0, 1, 2, 3, 4, 5, 6, 7, 8, 9, 10, 11, 12, 13, 14]), (16, some [])] hMixed (by kernel_rfl) ?_
    refine WQ ?_
    refine ZR ?_
    iterate 2 refine WX1 ?_
    refine ZA (rd_ixb (b := 4) (k := k) rfl (KE (t := 232) rfl) rfl rfl rfl rfl (hlen b)) ?_
    refine al_ef rfl (ef_stob (c := 46) rfl rfl (KS (t := 5) rfl) rfl rfl rfl (hlen b)) ?_
    rintro _ _ ⟨rfl, rfl⟩
    refine WE ?_
    rw [hset]
    refine WR ?_
    refine al_ef rfl (ef_call0 false (fun _ => haspl_v _ _ L vp hLl) rfl .fn rfl (by decide) (by kernel_rfl) rfl (fun _ => C0 rfl) (by simp)) ?_
    rintro _ _ ⟨_, _, _, ⟨rfl, rfl⟩, hF, hH⟩
    rw [decide_eq_false hL5] at hF
    (refine NST hF hH ?_; clear hF hH; rintro rfl rfl)
    refine WO ?_
    first | refine ZS ?_ | (refine G1 rfl ?_; refine al_ef rfl (ef_call0 false (fun _ => hfs) rfl (.clo rfl) rfl (by decide) hfn rfl (fun _ => C0 hcl2) (by simp)) ?_; rintro _ _ ⟨_, _, _, ⟨rfl, rfl⟩, hF, hH⟩; rw [hfq] at hF; (refine NST hF hH ?_; clear hF hH; rintro rfl rfl)) | skip
    refine WE ?_
    refine aw_cond_f rfl ?_
    refine ZZ ?_
    refine WA ?_
    refine wk_of [some 0, some 1, some 2, some 3, some 4] (fun _ => [(1, .f (.func fn) caps), (2, .p 0 0 0), (4, .p 1 0 0), (5, .p 2 0 0), (6, .c (.r vp (sR L))), (7, .c (I i)), (8, .c (T r)), (9, .c (.s vb)), (22, .c (.r va (tR c.rows))), (23, .c (I (tR c.rows).length)), (24, .c (I i)), (32, .c (I r.length)), (33, .c (I (k + 1 : Nat)))]) (fun _ => [celB va c, .box [.c (I 0), .c (I 0), .c (I 0), .c (.r (.slice none 0 0) [])], .box [.c (I c.st), .c (I c.x), .c (I c.y), .o 3 0 R.length cp], .arr 9 1 cp (tR R), .bts vb (P ++ 46 :: D)]) (by decide) (ZNL hE) ZCF ZCH (fun _ => ?_)
    exact ⟨m2 - 1, by omega, k + 1, by omega, rfl, by rw [hnext, hD]⟩
  obtain rfl : k = r.length := by omega
  rw [List.drop_length, List.append_nil]
  rw [← hrl] at hsn
  generalize hRW : rowB Lf (c.x.tdiv c.st) (c.y.tdiv c.st + (i : Nat)) r.length = RW at *
  refine WA ?_
  refine aw_cond_f rfl ?_
  refine ZZ ?_
  refine ZR ?_
  iterate 3 refine WX1 ?_
  refine ZA (rd_cvb (b := 4) rfl Tryz.underlying232 Tryz.underlying5 Tryz.underlying9 rfl rfl) ?_
  refine WO ?_
  refine al_ef rfl (Zapp (KA (t := 26) rfl)) ?_
  rintro _ _ ⟨_, cc, hcc, rfl, rfl⟩
  refine WE ?_
  refine WA ?_
  have hnh := clo_has [3] caps hcl
  (try simp only [List.set_cons_zero, List.set_cons_succ, updH, posOf, lentArr, killF, killO, killV, AV.has, AV.hasL, AV.emb, AV.embL, OB.emb, embB, List.filter_cons, List.filter_nil, List.getElem?_cons_zero, List.getElem?_cons_succ, List.getD_cons_zero, List.getD_cons_succ, List.drop_succ_cons, List.drop_zero, List.drop_nil, List.contains_cons, List.contains_nil, Nat.reduceBEq, Nat.reduceEqDiff, beq_self_eq_true, Bool.or_false, Bool.false_or, Bool.or_true, Bool.true_or, Bool.false_eq_true, Option.map_some, Option.map_none, List.map_cons, List.map_nil, List.cons_append, List.nil_append, List.append_nil, List.length_cons, List.length_nil, Nat.reduceAdd, Nat.reduceLT, Nat.reduceSub, if_true, if_false, Nat.zero_add, Nat.add_zero, Nat.sub_zero, Nat.lt_irrefl, Nat.not_lt_zero, Nat.zero_lt_one, Nat.lt_add_one])
  simp only [killF, killV, AV.has, hnh, List.map_cons, List.map_nil, List.contains_cons, List.contains_nil, Nat.reduceBEq, Bool.or_false, Bool.false_eq_true, if_false]
  refine wk_of [some 0, some 1, some 2, some 3] (fun _ => [(1, .f (.func fn) caps), (2, .p 0 0 0), (4, .p 1 0 0), (5, .p 2 0 0), (6, .c (.r vp (sR L))), (22, .c (.r va (tR c.rows))), (23, .c (I (tR c.rows).length)), (24, .c (I (i + 1 : Nat)))]) (fun _ => [celB va c, .box [.c (I 0), .c (I 0), .c (I 0), .c (.r (.slice none 0 0) [])], .box [.c (I c.st), .c (I c.x), .c (I c.y), .o 3 0 (R ++ [RW]).length cc], .arr 9 1 cc (tR (R ++ [RW]))]) (by decide) (ZNL hE) ZCF ZCH (fun _ => ?_)
  exact ⟨m - 1, by omega, i + 1, cc, by omega, rfl, by rw [← hrl, hsn]⟩
 obtain rfl : i = c.rows.length := by omega
 have hRl : ∀ r ∈ rowsB Lf (c.x.tdiv c.st) (c.y.tdiv c.st) (wid c.rows) c.rows.length, r.length ≤ 1000000 ∧ okB2 r = true := fun r hr => by
  obtain ⟨j, _, rfl⟩ := List.mem_map.1 hr
  exact ⟨by rw [rowB_len]; omega, okB2_rowB _ _ _ _⟩
 generalize hRr : rowsB Lf (c.x.tdiv c.st) (c.y.tdiv c.st) (wid c.rows) c.rows.length = R at *
 have hRn : R.length ≤ 1000000 := by omega
 refine ZZ ?_
 refine aw_wk (wk_of (K := fun F H => ∃ vo, F = [(4, .p 1 0 0), (5, .p 2 0 0)] ∧ H = [celB va c, .box [.c (I 0), .c (I 0), .c (I 0), .c (.r (.slice none 0 0) [])], .box [.c (I c.st), .c (I c.x), .c (I c.y), .c (.r vo (tR R))]]) [some 0, some 1, some 2] (fun _ => [(4, .p 1 0 0), (5, .p 2 0 0)]) (fun g => [celB va c, .box [.c (I 0), .c (I 0), .c (I 0), .c (.r (.slice none 0 0) [])], .box [.c (I c.st), .c (I c.x), .c (I c.y), .c (.r (g (.o 3 0 R.length cp)) (tR R))]]) (by decide) (ZNL hE) ZCF (fun g => .box rfl (C0 rfl) (.box rfl (C0 rfl) (.box rfl (.cons (.c rfl) (.cons (.c rfl) (.cons (.c rfl) (.cons (.frz rfl rfl (by rw [List.drop_zero, List.take_of_length_le (by simp)]) (by simp) rfl) .nil)))) .nil))) (fun _ => ⟨_, rfl, rfl⟩)) ?_
 rintro F H ⟨vo, rfl, rfl⟩
 refine WR ?_
 refine al_ef rfl (ef_call0 false (fun _ => trimmed_v vo ⟨c.st, c.x, c.y, R⟩ hst2 hx2 hy2 hRn hRl) rfl .fn rfl (by decide) (by kernel_rfl) rfl (fun _ => C0 rfl) (by simp)) ?_
 rintro _ _ ⟨_, _, _, ⟨v', rfl, rfl⟩, hF, hH⟩
 rw [hfin] at hF
 (refine NST hF hH ?_; clear hF hH; rintro rfl rfl)
 refine WE ?_
 exact aret_a [] _ rfl (KK (t := 28) rfl) rfl (Cells.box rfl) (by first | (simp; done) | exact Nat.le_refl 4) (by (try simp only [nm, putL, Nat.reduceAdd, cellsOf, cvOf]) <;> rfl) (by decide) (ZNK rfl) (fun _ => C0 rfl) (fun _ => .nil) ⟨v', rfl, rfl⟩
end Go.Proofs.YtniolldgidgffaaGreatDoor

/- The reference's walls, by value: WallsOf. -/
-- NEWM
namespace Go.Proofs.YtniolldgidgffaaGreatDoor
open Go Go.RowKit
set_option maxRecDepth 100000
theorem rcel_rows {c : Cel} (h : RCel c) : ∀ r ∈ c.rows, r.length ≤ 1000000 ∧ okB2 r = true := fun r hr => by
 have := h.w
 rw [(h.row r hr).1]; exact ⟨by omega, (h.row r hr).2⟩
theorem places_r (va : Value) (c : Cel) (h : RCel c) : ACalls Tryz.prog 105 [celA va c] [] fun u H => ∃ v, u = .c (.r v (sR (covL c))) ∧ H = [] := by
 have hst := h.st
 have h1 := h.far.1
 have h2 := h.far.2
 have h3 := h.h
 exact places_v va c (by omega) (by omega) (by omega) (by omega) fun r hr => by
  have := h.w
  rw [(h.row r hr).1]; omega
theorem covL_len {c : Cel} (h : RCel c) : (covL c).length ≤ 1000000000 := by
 have h1 := h.h
 have h2 := h.w
 have := hitC_len (x := c.x.tdiv c.st) (y := c.y.tdiv c.st) (rs := c.rows) (M := 1000) (fun r hr => by rw [(h.row r hr).1]; omega)
 have h3 := Nat.mul_le_mul_right 1000 h1
 show (hitC (c.x.tdiv c.st) (c.y.tdiv c.st) c.rows).length ≤ _
 omega
theorem shrunkby_r (va : Value) (c : Cel) (h : NCel c) (n : Nat) (hn : n ≤ 1000) : ACalls Tryz.prog 217 [celA va c, .c (I n)] [] fun u H => ∃ v', u = .t [celA v' (celN c.st (shrL n (covL c))), .c (I 0)] ∧ H = [] := by
 have hst := h.r.st
 have h1 := h.r.far.1
 have h2 := h.r.far.2
 have h3 := h.r.h
 have := shrunkby_v va c (by omega) h1 h2 (by omega) (rcel_rows h.r) n hn
 rw [(normC_ok h (fun p hp => (List.mem_filter.1 hp).1)).1] at this
 exact this
theorem depth_v (va : Value) (c : Cel) (h : NCel c) (n : Nat) (hn : n ≤ 1000) : ACalls Tryz.prog 216 [.c (I n), .p 0 0 0] [celB va c] fun u H => ∃ v', u = celA v' (celN c.st (shrL n (covL c))) ∧ H = [celB va c] := by
 refine acalls_of (N := 13) Tryz.func216 rfl rfl (by simp) fun E hE => ?_
 refine WA ?_
 refine WR ?_
 refine al_ef rfl (ef_call0 false (fun _ => shrunkby_r va c h n hn) rfl .fn rfl (by decide) (by kernel_rfl) rfl (fun _ => C0 rfl) (by simp)) ?_
 rintro _ _ ⟨_, _, _, ⟨v', rfl, rfl⟩, hF, hH⟩
 (refine NST hF hH ?_; clear hF hH; rintro rfl rfl)
 refine WE ?_
 refine WA ?_
 exact aret_a [some 0] [celB va c] rfl (KK (t := 28) rfl) rfl (Cells.box rfl) (by first | (simp; done) | exact Nat.le_refl 4) (by (try simp only [nm, putL, Nat.reduceAdd, cellsOf, cvOf]) <;> rfl) (by decide) (ZNK rfl) (fun _ => C0 rfl) ZCH ⟨v', rfl, rfl⟩
theorem notin_v (pv v : Value) (L : List Spot) (hl : L.length ≤ 1000000000) (x y : Int) : ACalls Tryz.prog 218 [.a [.c (I x), .c (I y)], .c (.p pv [.r v (sR L)])] [] fun u H => u = .c (B (!decide ((x, y) ∈ L))) ∧ H = [] := by
 refine acalls_of (N := 8) Tryz.func218 rfl rfl (by simp) fun E hE => ?_
 refine WA ?_
 refine ZR ?_
 refine ZA (rd_ldcp rfl (by kernel_rfl) rfl rfl) ?_
 refine WO ?_
 refine al_ef rfl (ef_call0 false (fun _ => haspl_v x y L v hl) rfl .fn rfl (by decide) (by kernel_rfl) rfl (fun _ => C0 rfl) (by simp)) ?_
 rintro _ _ ⟨_, _, _, ⟨rfl, rfl⟩, hF, hH⟩
 (refine NST hF hH ?_; clear hF hH; rintro rfl rfl)
 refine WE ?_
 exact aret_1 [] _ rfl rfl rfl (by decide) (ZNK rfl) (fun _ => .nil) ⟨rfl, rfl⟩
theorem isin_v (pv v : Value) (L : List Spot) (hl : L.length ≤ 1000000000) (x y : Int) : ACalls Tryz.prog 168 [.a [.c (I x), .c (I y)], .c (.p pv [.r v (sR L)])] [] fun u H => u = .c (B (decide ((x, y) ∈ L))) ∧ H = [] := by
 refine acalls_of (N := 7) Tryz.func168 rfl rfl (by simp) fun E hE => ?_
 refine WA ?_
 refine ZR ?_
 refine ZA (rd_ldcp rfl (by kernel_rfl) rfl rfl) ?_
 refine WO ?_
 refine al_ef rfl (ef_call0 false (fun _ => haspl_v x y L v hl) rfl .fn rfl (by decide) (by kernel_rfl) rfl (fun _ => C0 rfl) (by simp)) ?_
 rintro _ _ ⟨_, _, _, ⟨rfl, rfl⟩, hF, hH⟩
 (refine NST hF hH ?_; clear hF hH; rintro rfl rfl)
 refine WE ?_
 exact aret_1 [] _ rfl rfl rfl (by decide) (ZNK rfl) (fun _ => .nil) ⟨rfl, rfl⟩
theorem isnot_v (qv fv pv v : Value) (L : List Spot) (hl : L.length ≤ 1000000000) (x y : Int) : ACalls Tryz.prog 169 [.a [.c (I x), .c (I y)], .c (.p qv [.f fv (.func 168) [.p pv [.r v (sR L)]]])] [] fun u H => u = .c (B (!decide ((x, y) ∈ L))) ∧ H = [] := by
 refine acalls_of (N := 8) Tryz.func169 rfl rfl (by simp) fun E hE => ?_
 refine WA ?_
 refine ZR ?_
 refine ZA (rd_ldcp rfl (by kernel_rfl) rfl rfl) ?_
 refine WO ?_
 refine al_ef rfl (ef_call0 false (fun _ => isin_v pv v L hl x y) rfl (.cf rfl) rfl (by decide) (by kernel_rfl) rfl (fun _ => C0 rfl) (by simp)) ?_
 rintro _ _ ⟨_, _, _, ⟨rfl, rfl⟩, hF, hH⟩
 (refine NST hF hH ?_; clear hF hH; rintro rfl rfl)
 refine WE ?_
 exact aret_1 [] _ rfl rfl rfl (by decide) (ZNK rfl) (fun _ => .nil) ⟨rfl, rfl⟩
theorem min_these {c : Cel} (h : NCel c) (k : Nat) : (normC (celN c.st (shrL k (covL c))).st ((covL (celN c.st (shrL k (covL c)))).filter fun q => !decide (q ∈ covL (celN c.st (shrL (k + 1) (covL c)))))).1 = walC c k := by
 obtain ⟨q1, q2, q3⟩ := wal_eq h k
 rw [celN_st]
 have := (normC_ok h q2).1
 unfold minL at this q3
 rw [this, q3]
set_option maxHeartbeats 2000000 in
theorem wallsof_v (va : Value) (c : Cel) (h : NCel c) (n : Nat) (hn : n ≤ 10) : ACalls Tryz.prog 166 [celA va c, .c (I n)] [] fun u H => ∃ (v w : Value) (lv : List (Value × Cel)), u = .t [.c (.r w (cR lv)), celA v (celN c.st (shrL n (covL c)))] ∧ lv.map Prod.snd = (List.range n).map (walC c) ∧ H = [] := by
 refine acalls_of (N := 35) Tryz.func166 rfl rfl (by simp) fun E hE => ?_
 refine WA ?_
 refine WA ?_
 refine WA ?_
 refine WA ?_
 refine aw_loopw (fun m F H => ∃ (k cp : Nat) (lv : List (Value × Cel)), m + k = n ∧ lv.map Prod.snd = (List.range k).map (walC c) ∧ F = [(1, .c (I n)), (2, .p 0 0 0), (5, .p 1 0 0), (6, .o 2 0 lv.length cp), (7, .f (.func 216) [.p 0 0 0]), (12, .c (I n)), (13, .c (I (k : Nat)))] ∧ H = [celB va c, .box [.c (I 0), .c (I 0), .c (I 0), .c (.r (.slice none 0 0) [])], .arr 28 4 cp (cR lv)]) ?_ ?_
 ·refine wk_of [some 0, some 1, none] (fun _ => [(1, .c (I n)), (2, .p 0 0 0), (5, .p 1 0 0), (6, .o 2 0 0 0), (7, .f (.func 216) [.p 0 0 0]), (12, .c (I n)), (13, .c (I (0 : Nat)))]) (fun _ => [celB va c, .box [.c (I 0), .c (I 0), .c (I 0), .c (.r (.slice none 0 0) [])], .arr 28 4 0 (cR [])]) (by decide) (ZNL hE) ZCF ZCH (fun _ => ?_)
  exact ⟨n, 0, 0, [], by omega, rfl, rfl, rfl⟩
 rintro m F H ⟨k, cp, lv, hk, hlv, rfl, rfl⟩
 have hll : lv.length = k := by have := congrArg List.length hlv; simpa using this
 refine WA ?_
 refine aw_if rfl (fun hlt => ?_) (fun hge => ?_)
 ·obtain ⟨q1, q2, q3⟩ := wal_eq h k
  obtain ⟨q4, _, _⟩ := wal_eq h (k + 1)
  have hlB := covL_len q4
  have hmt := min_these h k
  have hth : ∀ pv vp v1, ACalls Tryz.prog 100 [celA v1 (celN c.st (shrL k (covL c))), .f (.func 218) [.c (.p pv [.r vp (sR (covL (celN c.st (shrL (k + 1) (covL c)))))])]] [] fun u H => ∃ v', u = celA v' (walC c k) ∧ H = [] := fun pv vp v1 => by
   have := these_v 218 [.c (.p pv [.r vp (sR (covL (celN c.st (shrL (k + 1) (covL c)))))])] rfl (by kernel_rfl) (fun q => !decide (q ∈ covL (celN c.st (shrL (k + 1) (covL c))))) v1 _ q1 (fun x y _ => notin_v pv vp _ hlB x y)
   rw [hmt] at this
   exact this
  have hnl : (List.range (k + 1)).map (walC c) = (List.range k).map (walC c) ++ [walC c k] := by rw [List.range_succ, List.map_append]; rfl
  generalize walC c k = W at *
  refine WA ?_
  clear hmt q3 q2
  have hd1 := depth_v va c h k (by omega)
  have hd2 := depth_v va c h (k + 1) (by omega)
  generalize hDA : celN c.st (shrL k (covL c)) = DA at *
  generalize hDB : celN c.st (shrL (k + 1) (covL c)) = DB at *
  refine WR ?_
  refine al_ef rfl (ef_call [0] (fun _ => [celB va c]) false (fun _ => hd1) rfl (.clo rfl) rfl (by decide) (by kernel_rfl) rfl ZCH (by decide) ZCH (by simp)) ?_
  rintro F1 H1 ⟨_, _, _, _, ⟨v1, rfl, rfl⟩, hF, hH⟩
  (refine NSU hF hH ?_; clear hF hH; rintro rfl rfl)
  refine WO ?_
  refine al_ef rfl (ef_call [0] (fun _ => [celB va c]) false (fun _ => hd2) rfl (.clo rfl) rfl (by decide) (by kernel_rfl) rfl ZCH (by decide) ZCH (by simp)) ?_
  rintro F1 H1 ⟨_, _, _, _, ⟨v2, rfl, rfl⟩, hF, hH⟩
  (refine NSU hF hH ?_; clear hF hH; rintro rfl rfl)
  refine al_ef rfl (ef_call0 false (fun _ => places_r v2 DB q4) rfl .fn rfl (by decide) (by kernel_rfl) rfl (fun _ => C0 rfl) (by simp)) ?_
  rintro _ _ ⟨_, _, _, ⟨vp, rfl, rfl⟩, hF, hH⟩
  (refine NST hF hH ?_; clear hF hH; rintro rfl rfl)
  refine WE ?_
  refine aw_wk (wk_of (K := fun F H => ∃ pv, F = [(1, .c (I n)), (2, .p 0 0 0), (5, .p 1 0 0), (6, .o 2 0 lv.length cp), (7, .f (.func 216) [.p 0 0 0]), (9, .p 3 0 0), (10, .c (.p pv [.r vp (sR (covL DB))])), (12, .c (I n)), (13, .c (I (k : Nat)))] ∧ H = [celB va c, .box [.c (I 0), .c (I 0), .c (I 0), .c (.r (.slice none 0 0) [])], .arr 28 4 cp (cR lv), celB v1 DA]) [some 0, some 1, some 2, some 3] (fun g => [(1, .c (I n)), (2, .p 0 0 0), (5, .p 1 0 0), (6, .o 2 0 lv.length cp), (7, .f (.func 216) [.p 0 0 0]), (9, .p 3 0 0), (10, .c (.p (g (.p 4 0 0)) [.r vp (sR (covL DB))])), (12, .c (I n)), (13, .c (I (k : Nat)))]) (fun _ => [celB va c, .box [.c (I 0), .c (I 0), .c (I 0), .c (.r (.slice none 0 0) [])], .arr 28 4 cp (cR lv), celB v1 DA]) (by decide) (ZNL hE) (fun g => .cons rfl (.c rfl) (.cons rfl (.p rfl) (.cons rfl (.p rfl) (.cons rfl (.o rfl rfl) (.cons rfl (.fL (.cons (.p rfl) .nil)) (.cons rfl (.p rfl) (.cons rfl (frzpL rfl rfl (.cons (.c rfl) .nil)) (.cons rfl (.c rfl) (.cons rfl (.c rfl) .nil))))))))) ZCH (fun _ => ⟨_, rfl, rfl⟩)) ?_
  rintro F H ⟨pv, rfl, rfl⟩
  refine WR ?_
  refine al_ef rfl (ef_call0 false (fun _ => hth pv vp v1) rfl .fn rfl (by decide) (by kernel_rfl) rfl (fun _ => C0 rfl) (by simp)) ?_
  rintro _ _ ⟨_, _, _, ⟨v3, rfl, rfl⟩, hF, hH⟩
  (refine NST hF hH ?_; clear hF hH; rintro rfl rfl)
  refine WO ?_
  refine al_ef rfl (Zapp (KA (t := 58) rfl)) ?_
  rintro _ _ ⟨_, cc, hcc, rfl, rfl⟩
  refine WE ?_
  refine WA ?_
  refine wk_of [some 0, some 1, some 2] (fun _ => [(1, .c (I n)), (2, .p 0 0 0), (5, .p 1 0 0), (6, .o 2 0 (lv ++ [(v3, W)]).length cc), (7, .f (.func 216) [.p 0 0 0]), (12, .c (I n)), (13, .c (I (k + 1 : Nat)))]) (fun _ => [celB va c, .box [.c (I 0), .c (I 0), .c (I 0), .c (.r (.slice none 0 0) [])], .arr 28 4 cc (cR (lv ++ [(v3, W)]))]) (by decide) (ZNL hE) ZCF ZCH (fun _ => ?_)
  exact ⟨m - 1, by omega, k + 1, cc, lv ++ [(v3, W)], by omega, by rw [List.map_append, hlv, hnl]; rfl, rfl, rfl⟩
 obtain rfl : k = n := by omega
 have hd1 := depth_v va c h k (by omega)
 generalize hDA : celN c.st (shrL k (covL c)) = DA at *
 refine ZZ ?_
 refine WR ?_
 refine al_ef rfl (ef_call [0] (fun _ => [celB va c]) false (fun _ => hd1) rfl (.clo rfl) rfl (by decide) (by kernel_rfl) rfl ZCH (by decide) ZCH (by simp)) ?_
 rintro F1 H1 ⟨_, _, _, _, ⟨v1, rfl, rfl⟩, hF, hH⟩
 (refine NSU hF hH ?_; clear hF hH; rintro rfl rfl)
 refine WE ?_
 exact aret_of (us := [.o 2 0 lv.length cp, celA v1 DA]) [] (fun f => .t [.c (.r (f (.o 2 0 lv.length cp)) (cR lv)), celA v1 DA]) (fun _ => []) (.tmp rfl (.cella (n := 4) rfl (by kernel_rfl) (Cells.box rfl) (by simp) (by (try simp only [nm, putL, Nat.reduceAdd, cellsOf, cvOf]) <;> rfl) .nil)) (by decide) (fun i hi => absurd hi (Nat.not_lt_zero i)) (fun g' => .tL (.cons (.frz rfl rfl (by rw [List.drop_zero, List.take_of_length_le (by simp)]) (by simp) rfl) (.cons (.aL (.cons (.c rfl) (.cons (.c rfl) (.cons (.c rfl) (.cons (.c rfl) .nil))))) .nil))) (fun _ => .nil) (fun g' => ⟨v1, _, lv, rfl, hlv, rfl⟩)
end Go.Proofs.YtniolldgidgffaaGreatDoor
