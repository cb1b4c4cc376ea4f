/- A struct that a closed pointer points to is loaded; the center of a cell; the reference's Covered and Left, by value. -/
import Derived.Test.YtniolldgidgffaaGreatDoorQbn
import Derived.Test.YtniolldgidgffaaGreatDoorQbj
set_option linter.unusedSimpArgs false
set_option linter.unusedVariables false
/- The reference's cells that are so, by value: these. -/
-- NEWM
namespace Go.Proofs.YtniolldgidgffaaGreatDoor
open Go Go.RowKit
set_option maxRecDepth 100000
theorem at_cov2 {c : Cel} {i k : Nat} {r : List UInt8} {b : UInt8} (h1 : c.rows[i]? = some r) (h2 : r[k]? = some b) : ((c.x.tdiv c.st + (k : Nat), c.y.tdiv c.st + (i : Nat)) : Spot) ∈ covL c ↔ b = 35 := by
 unfold covL
 rw [hitC_mem]
 constructor
 ·rintro ⟨i', k', r', q1, q2, e⟩
  obtain ⟨e1, e2⟩ := Prod.mk.inj e
  obtain rfl : i = i' := by omega
  obtain rfl : k = k' := by omega
  rw [h1] at q1
  obtain rfl := Option.some.inj q1
  rw [h2] at q2
  exact Option.some.inj q2
 ·rintro rfl; exact ⟨i, k, r, h1, h2, rfl⟩
theorem covL_rowsB {st x y : Int} {L : List Spot} {w h : Nat} (hL : ∀ p ∈ L, x.tdiv st ≤ p.1 ∧ p.1 < x.tdiv st + w ∧ y.tdiv st ≤ p.2 ∧ p.2 < y.tdiv st + h) {p : Spot} : p ∈ covL ⟨st, x, y, rowsB L (x.tdiv st) (y.tdiv st) w h⟩ ↔ p ∈ L := by
 unfold covL
 rw [hitC_mem]
 simp only
 constructor
 ·rintro ⟨i, k, r, h1, h2, rfl⟩
  unfold rowsB at h1
  rw [List.getElem?_map] at h1
  obtain ⟨i', hi, rfl⟩ := Option.map_eq_some_iff.1 h1
  obtain rfl : i = i' := by have := List.getElem?_eq_some_iff.1 hi; simpa using this.2
  unfold rowB at h2
  rw [List.getElem?_map] at h2
  obtain ⟨k', hk, h3⟩ := Option.map_eq_some_iff.1 h2
  obtain rfl : k = k' := by have := List.getElem?_eq_some_iff.1 hk; simpa using this.2
  split at h3
  ·assumption
  ·cases h3
 ·intro hp
  obtain ⟨g1, g2, g3, g4⟩ := hL p hp
  obtain ⟨a, b⟩ := p
  simp only at g1 g2 g3 g4
  refine ⟨(b - y.tdiv st).toNat, (a - x.tdiv st).toNat, rowB L (x.tdiv st) (y.tdiv st + ((b - y.tdiv st).toNat : Nat)) w, ?_, ?_, ?_⟩
  ·unfold rowsB; rw [List.getElem?_map, List.getElem?_range (by omega)]; rfl
  ·exact rowB_at (by omega) (by rw [show x.tdiv st + ((a - x.tdiv st).toNat : Int) = a by omega, show y.tdiv st + ((b - y.tdiv st).toNat : Int) = b by omega]; exact hp)
  ·rw [show x.tdiv st + ((a - x.tdiv st).toNat : Int) = a by omega, show y.tdiv st + ((b - y.tdiv st).toNat : Int) = b by omega]
mutual
theorem clo_has1 (b : List Nat) : ∀ x : AV, x.clo = true → x.has b = false
 | .c _, _ => rfl
 | .q .., _ => rfl
 | .a l, h => by rw [AV.has]; exact clo_has b l (by rw [AV.clo] at h; exact h)
 | .t l, h => by rw [AV.has]; exact clo_has b l (by rw [AV.clo] at h; exact h)
 | .f _ l, h => by rw [AV.has]; exact clo_has b l (by rw [AV.clo] at h; exact h)
 | .p .., h => by simp [AV.clo] at h
 | .o .., h => by simp [AV.clo] at h
 | .mp .., h => by simp [AV.clo] at h
theorem clo_has (b : List Nat) : ∀ l : List AV, AV.cloL l = true → AV.hasL b l = false
 | [], _ => rfl
 | x :: l, h => by
  rw [AV.cloL] at h
  split at h
  ·rename_i hx; rw [AV.hasL, clo_has1 b x hx, clo_has b l h]; rfl
  ·cases h
end
set_option maxHeartbeats 4000000 in
theorem these_v (fn : FuncId) (caps : List AV) (hcl : AV.cloL caps = true) (hfn : okFn Tryz.prog fn = true) (f : Spot → Bool) (va : Value) (c : Cel) (h : RCel c) (hf : ∀ x y : Int, (x, y) ∈ covL c → ACalls Tryz.prog fn ([.a [.c (I x), .c (I y)]] ++ caps) [] fun u H => u = .c (B (f (x, y))) ∧ H = []) : ACalls Tryz.prog 100 [celA va c, .f (.func fn) caps] [] fun u H => ∃ v', u = celA v' (normC c.st ((covL c).filter f)).1 ∧ H = [] := by
 have hst := h.st
 have hx2 := h.far.1
 have hy2 := h.far.2
 have hw := h.w
 have hh := h.h
 have hst2 : 1 ≤ c.st ∧ c.st ≤ 1000000 := by omega
 have hx5 : -1000000000000 ≤ c.x ∧ c.x ≤ 1000000000000 := by omega
 have hy5 : -1000000000000 ≤ c.y ∧ c.y ≤ 1000000000000 := by omega
 have hr5 : ∀ r ∈ c.rows, r.length ≤ 10000 := fun r hr => by rw [(h.row r hr).1]; omega
 have hX := tdiv_bd hst2.1 hx2
 have hY := tdiv_bd hst2.1 hy2
 have e1 : (tR c.rows).length = c.rows.length := by simp
 have hat := @at_cov2 c
 have hin : ∀ p ∈ (covL c).filter f, c.x.tdiv c.st ≤ p.1 ∧ p.1 < c.x.tdiv c.st + (wid c.rows : Nat) ∧ c.y.tdiv c.st ≤ p.2 ∧ p.2 < c.y.tdiv c.st + (c.rows.length : Nat) := fun p hp => by
  have := covL_in h (List.mem_filter.1 hp).1
  omega
 have hfin : (normC c.st (covL ⟨c.st, c.x, c.y, rowsB ((covL c).filter f) (c.x.tdiv c.st) (c.y.tdiv c.st) (wid c.rows) c.rows.length⟩)).1 = (normC c.st ((covL c).filter f)).1 := by
  rw [normC_mem fun p => covL_rowsB hin]
 have hmf : ∀ q, q ∈ (covL c).filter f ↔ q ∈ covL c ∧ f q = true := fun q => List.mem_filter
 have hLl : (covL c).length ≤ 1000000000 := by
  have := hitC_len (x := c.x.tdiv c.st) (y := c.y.tdiv c.st) hr5
  have h3 := Nat.mul_le_mul_right 10000 hh
  show (hitC (c.x.tdiv c.st) (c.y.tdiv c.st) c.rows).length ≤ _
  omega
 generalize hLf : (covL c).filter f = Lf at *
 generalize hLL : covL c = L at *
 refine acalls_of (N := 76) Tryz.func100 rfl rfl (by simp) fun E hE => ?_
 refine WA ?_
 refine WA ?_
 refine WR ?_
 refine al_ef rfl (ef_call0 false (fun _ => places_v va c (by omega) hx5 hy5 (by omega) hr5) rfl .fn rfl (by decide) (by kernel_rfl) rfl (fun _ => C0 rfl) (by simp)) ?_
 rintro _ _ ⟨_, _, _, ⟨vp, rfl, rfl⟩, hF, hH⟩
 rw [hLL] at hF
 (refine NST hF hH ?_; clear hF hH; rintro rfl rfl)
 refine WE ?_
 refine WA ?_
 refine aw_loopw (fun m F H => ∃ (i cp : Nat), m + i = c.rows.length ∧ F = [(1, .f (.func fn) caps), (2, .p 0 0 0), (4, .p 1 0 0), (5, .p 2 0 0), (6, .c (.r vp (sR L))), (22, .c (.r va (tR c.rows))), (23, .c (I (tR c.rows).length)), (24, .c (I i))] ∧ H = [celB va c, .box [.c (I 0), .c (I 0), .c (I 0), .c (.r (.slice none 0 0) [])], .box [.c (I c.st), .c (I c.x), .c (I c.y), .o 3 0 (rowsB Lf (c.x.tdiv c.st) (c.y.tdiv c.st) (wid c.rows) i).length cp], .arr 9 1 cp (tR (rowsB Lf (c.x.tdiv c.st) (c.y.tdiv c.st) (wid c.rows) i))]) ?_ ?_
 ·refine wk_of [some 0, some 1, some 2, none] (fun _ => [(1, .f (.func fn) caps), (2, .p 0 0 0), (4, .p 1 0 0), (5, .p 2 0 0), (6, .c (.r vp (sR L))), (22, .c (.r va (tR c.rows))), (23, .c (I (tR c.rows).length)), (24, .c (I (0 : Nat)))]) (fun _ => [celB va c, .box [.c (I 0), .c (I 0), .c (I 0), .c (.r (.slice none 0 0) [])], .box [.c (I c.st), .c (I c.x), .c (I c.y), .o 3 0 0 0], .arr 9 1 0 (tR [])]) (by decide) (ZNL hE) ZCF ZCH (fun _ => ?_)
  exact ⟨c.rows.length, 0, 0, by omega, rfl, rfl⟩
 rintro m F H ⟨i, cp, hi, rfl, rfl⟩
 have hsl := rowsB_len Lf (c.x.tdiv c.st) (c.y.tdiv c.st) (wid c.rows) i
 refine WA ?_
 refine aw_if rfl (fun hlt => ?_) (fun hge => ?_)
 ·obtain ⟨r, hri⟩ : ∃ r, c.rows[i]? = some r := ⟨_, List.getElem?_eq_getElem (by omega)⟩
  have hrow : (tR c.rows)[i]? = some [T r] := by rw [List.getElem?_map, hri]; rfl
  have hrl := (h.row r (List.mem_of_getElem? hri)).1
  have hsn := rowsB_succ Lf (c.x.tdiv c.st) (c.y.tdiv c.st) (wid c.rows) i
  generalize hRr : rowsB Lf (c.x.tdiv c.st) (c.y.tdiv c.st) (wid c.rows) i = R at *
  refine WA ?_
  refine ZR ?_
  refine WX1 ?_
  refine al_ef rfl (ef_cvsb rfl Tryz.underlying9 Tryz.underlying232 Tryz.underlying5 rfl (by decide) rfl) ?_
  rintro _ _ ⟨vb, rfl, rfl⟩
  refine WE ?_
  refine ZR ?_
  refine WX1 ?_
  refine ZA (rd_lenb (b := 4) rfl (KE (t := 232) rfl) rfl rfl) ?_
  refine WE ?_
  refine aw_loopw (fun m2 F H => ∃ (k : Nat), m2 + k = r.length ∧ F = [(1, .f (.func fn) caps), (2, .p 0 0 0), (4, .p 1 0 0), (5, .p 2 0 0), (6, .c (.r vp (sR L))), (7, .c (I i)), (8, .c (T r)), (9, .c (.s vb)), (22, .c (.r va (tR c.rows))), (23, .c (I (tR c.rows).length)), (24, .c (I i)), (32, .c (I r.length)), (33, .c (I k))] ∧ H = [celB va c, .box [.c (I 0), .c (I 0), .c (I 0), .c (.r (.slice none 0 0) [])], .box [.c (I c.st), .c (I c.x), .c (I c.y), .o 3 0 R.length cp], .arr 9 1 cp (tR R), .bts vb (rowB Lf (c.x.tdiv c.st) (c.y.tdiv c.st + (i : Nat)) k ++ r.drop k)]) ?_ ?_
  ·refine wk_of [some 0, some 1, some 2, some 3, some 4] (fun _ => [(1, .f (.func fn) caps), (2, .p 0 0 0), (4, .p 1 0 0), (5, .p 2 0 0), (6, .c (.r vp (sR L))), (7, .c (I i)), (8, .c (T r)), (9, .c (.s vb)), (22, .c (.r va (tR c.rows))), (23, .c (I (tR c.rows).length)), (24, .c (I i)), (32, .c (I r.length)), (33, .c (I (0 : Nat)))]) (fun _ => [celB va c, .box [.c (I 0), .c (I 0), .c (I 0), .c (.r (.slice none 0 0) [])], .box [.c (I c.st), .c (I c.x), .c (I c.y), .o 3 0 R.length cp], .arr 9 1 cp (tR R), .bts vb r]) (by decide) (ZNL hE) ZCF ZCH (fun _ => ?_)
   exact ⟨r.length, 0, by omega, rfl, rfl⟩
  rintro m2 F H ⟨k, hk, rfl, rfl⟩
  have hrs := rowB_succ Lf (c.x.tdiv c.st) (c.y.tdiv c.st + (i : Nat)) k
  have hrk := rowB_len Lf (c.x.tdiv c.st) (c.y.tdiv c.st + (i : Nat)) k
  by_cases hkl : k < r.length
  ·obtain ⟨b, hb⟩ : ∃ b, r[k]? = some b := ⟨_, List.getElem?_eq_getElem hkl⟩
   have hdr : r.drop k = b :: r.drop (k + 1) := by
    obtain ⟨h1, h2⟩ := List.getElem?_eq_some_iff.1 hb
    rw [List.drop_eq_getElem_cons h1, h2]
   have hmem := hat hri hb
   have hmf2 := hmf (c.x.tdiv c.st + (k : Nat), c.y.tdiv c.st + (i : Nat))
   generalize hP : rowB Lf (c.x.tdiv c.st) (c.y.tdiv c.st + (i : Nat)) k = P at *
   generalize hD : r.drop (k + 1) = D at *
   rw [hdr]
   have hset : ∀ z y : UInt8, (P ++ z :: D).set k y = P ++ y :: D := fun z y => by
    rw [List.set_append_right _ _ (by omega), hrk, Nat.sub_self]; rfl
   have hlen : ∀ z : UInt8, k < (P ++ z :: D).length := fun z => by rw [List.length_append, List.length_cons]; omega
   have hnext : P ++ (if (c.x.tdiv c.st + (k : Nat), c.y.tdiv c.st + (i : Nat)) ∈ Lf then 35 else 46) :: D = rowB Lf (c.x.tdiv c.st) (c.y.tdiv c.st + (i : Nat)) (k + 1) ++ D := by rw [hrs, List.append_assoc]; rfl
   by_cases hb5 : b = 35
   ·have hL5 := hmem.2 hb5
    have hfs := hf _ _ hL5
    have hcl2 : AV.cloL ([.a [.c (I (c.x.tdiv c.st + (k : Nat))), .c (I (c.y.tdiv c.st + (i : Nat)))]] ++ caps) = true := hcl
    obtain ⟨q, hfq⟩ : ∃ q, f (c.x.tdiv c.st + (k : Nat), c.y.tdiv c.st + (i : Nat)) = q := ⟨_, rfl⟩
    rw [hfq] at hmf2
    refine WA ?_
    refine aw_cond_t rfl ?_
    refine WA ?_
    refine ZZ ?_
    refine aw_regionT [(0, none), (1, none), (2, none), (3, none), (4, none), (5, none), (6, none), (7, none), (8, none), (9, none), (10, none), (11, none), (12, none), (13, none), (14, none), (15, some [0, 1, 2, 3, 4, 5, 6, 7, 8, 9, 10, 11, 12, 13, 14]), (16, some [])] hMixed (by kernel_rfl) ?_
    refine WQ ?_
    refine ZR ?_
    iterate 2 refine WX1 ?_
    refine ZA (rd_ixb (b := 4) (k := k) rfl (KE (t := 232) rfl) rfl rfl rfl rfl (hlen b)) ?_
    refine al_ef rfl (ef_stob (c := 46) rfl rfl (KS (t := 5) rfl) rfl rfl rfl (hlen b)) ?_
    rintro _ _ ⟨rfl, rfl⟩
    refine WE ?_
    rw [hset]
    refine WR ?_
    refine al_ef rfl (ef_call0 false (fun _ => haspl_v _ _ L vp hLl) rfl .fn rfl (by decide) (by kernel_rfl) rfl (fun _ => C0 rfl) (by simp)) ?_
    rintro _ _ ⟨_, _, _, ⟨rfl, rfl⟩, hF, hH⟩
    rw [decide_eq_true hL5] at hF
    (refine NST hF hH ?_; clear hF hH; rintro rfl rfl)
    refine WO ?_
    first | refine ZS ?_ | (refine G1 rfl ?_; refine al_ef rfl (ef_call0 false (fun _ => hfs) rfl (.clo rfl) rfl (by decide) hfn rfl (fun _ => C0 hcl2) (by simp)) ?_; rintro _ _ ⟨_, _, _, ⟨rfl, rfl⟩, hF, hH⟩; rw [hfq] at hF; (refine NST hF hH ?_; clear hF hH; rintro rfl rfl)) | skip
    refine WE ?_
    cases q with
    | true =>
     rw [if_pos (hmf2.2 ⟨hL5, rfl⟩)] at hnext
     refine aw_cond_t rfl ?_
     refine ZR ?_
     iterate 2 refine WX1 ?_
     refine ZA (rd_ixb (b := 4) (k := k) rfl (KE (t := 232) rfl) rfl rfl rfl rfl (hlen 46)) ?_
     refine al_ef rfl (ef_stob (c := 35) rfl rfl (KS (t := 5) rfl) rfl rfl rfl (hlen 46)) ?_
     rintro _ _ ⟨rfl, rfl⟩
     refine WE ?_
     rw [hset]
     refine WA ?_
     refine wk_of [some 0, some 1, some 2, some 3, some 4] (fun _ => [(1, .f (.func fn) caps), (2, .p 0 0 0), (4, .p 1 0 0), (5, .p 2 0 0), (6, .c (.r vp (sR L))), (7, .c (I i)), (8, .c (T r)), (9, .c (.s vb)), (22, .c (.r va (tR c.rows))), (23, .c (I (tR c.rows).length)), (24, .c (I i)), (32, .c (I r.length)), (33, .c (I (k + 1 : Nat)))]) (fun _ => [celB va c, .box [.c (I 0), .c (I 0), .c (I 0), .c (.r (.slice none 0 0) [])], .box [.c (I c.st), .c (I c.x), .c (I c.y), .o 3 0 R.length cp], .arr 9 1 cp (tR R), .bts vb (P ++ 35 :: D)]) (by decide) (ZNL hE) ZCF ZCH (fun _ => ?_)
     exact ⟨m2 - 1, by omega, k + 1, by omega, rfl, by rw [hnext, hD]⟩
    | false =>
     rw [if_neg (fun e => by cases (hmf2.1 e).2)] at hnext
     refine aw_cond_f rfl ?_
     refine ZZ ?_
     refine WA ?_
     refine wk_of [some 0, some 1, some 2, some 3, some 4] (fun _ => [(1, .f (.func fn) caps), (2, .p 0 0 0), (4, .p 1 0 0), (5, .p 2 0 0), (6, .c (.r vp (sR L))), (7, .c (I i)), (8, .c (T r)), (9, .c (.s vb)), (22, .c (.r va (tR c.rows))), (23, .c (I (tR c.rows).length)), (24, .c (I i)), (32, .c (I r.length)), (33, .c (I (k + 1 : Nat)))]) (fun _ => [celB va c, .box [.c (I 0), .c (I 0), .c (I 0), .c (.r (.slice none 0 0) [])], .box [.c (I c.st), .c (I c.x), .c (I c.y), .o 3 0 R.length cp], .arr 9 1 cp (tR R), .bts vb (P ++ 46 :: D)]) (by decide) (ZNL hE) ZCF ZCH (fun _ => ?_)
     exact ⟨m2 - 1, by omega, k + 1, by omega, rfl, by rw [hnext, hD]⟩
   ·have hL5 : ¬ (c.x.tdiv c.st + (k : Nat), c.y.tdiv c.st + (i : Nat)) ∈ L := fun e => hb5 (hmem.1 e)
    rw [if_neg (fun e => hL5 (hmf2.1 e).1)] at hnext
    refine WA ?_
    refine aw_cond_t rfl ?_
    refine WA ?_
    refine ZZ ?_
    refine aw_regionT [(0, none), (1, none), (2, none), (3, none), (4, none), (5, none), (6, none), (7, none), (8, none), (9, none), (10, none), (11, none), (12, none), (13, none), (14, none), (15, some [0, 1, 2, 3, 4, 5, 6, 7, 8, 9, 10, 11, 12, 13, 14]), (16, some [])] hMixed (by kernel_rfl) ?_
    refine WQ ?_
    refine ZR ?_
    iterate 2 refine WX1 ?_
    refine ZA (rd_ixb (b := 4) (k := k) rfl (KE (t := 232) rfl) rfl rfl rfl rfl (hlen b)) ?_
    refine al_ef rfl (ef_stob (c := 46) rfl rfl (KS (t := 5) rfl) rfl rfl rfl (hlen b)) ?_
    rintro _ _ ⟨rfl, rfl⟩
    refine WE ?_
    rw [hset]
    refine WR ?_
    refine al_ef rfl (ef_call0 false (fun _ => haspl_v _ _ L vp hLl) rfl .fn rfl (by decide) (by kernel_rfl) rfl (fun _ => C0 rfl) (by simp)) ?_
    rintro _ _ ⟨_, _, _, ⟨rfl, rfl⟩, hF, hH⟩
    rw [decide_eq_false hL5] at hF
    (refine NST hF hH ?_; clear hF hH; rintro rfl rfl)
    refine WO ?_
    first | refine ZS ?_ | (refine G1 rfl ?_; refine al_ef rfl (ef_call0 false (fun _ => hfs) rfl (.clo rfl) rfl (by decide) hfn rfl (fun _ => C0 hcl2) (by simp)) ?_; rintro _ _ ⟨_, _, _, ⟨rfl, rfl⟩, hF, hH⟩; rw [hfq] at hF; (refine NST hF hH ?_; clear hF hH; rintro rfl rfl)) | skip
    refine WE ?_
    refine aw_cond_f rfl ?_
    refine ZZ ?_
    refine WA ?_
    refine wk_of [some 0, some 1, some 2, some 3, some 4] (fun _ => [(1, .f (.func fn) caps), (2, .p 0 0 0), (4, .p 1 0 0), (5, .p 2 0 0), (6, .c (.r vp (sR L))), (7, .c (I i)), (8, .c (T r)), (9, .c (.s vb)), (22, .c (.r va (tR c.rows))), (23, .c (I (tR c.rows).length)), (24, .c (I i)), (32, .c (I r.length)), (33, .c (I (k + 1 : Nat)))]) (fun _ => [celB va c, .box [.c (I 0), .c (I 0), .c (I 0), .c (.r (.slice none 0 0) [])], .box [.c (I c.st), .c (I c.x), .c (I c.y), .o 3 0 R.length cp], .arr 9 1 cp (tR R), .bts vb (P ++ 46 :: D)]) (by decide) (ZNL hE) ZCF ZCH (fun _ => ?_)
    exact ⟨m2 - 1, by omega, k + 1, by omega, rfl, by rw [hnext, hD]⟩
  obtain rfl : k = r.length := by omega
  rw [List.drop_length, List.append_nil]
  rw [← hrl] at hsn
  generalize hRW : rowB Lf (c.x.tdiv c.st) (c.y.tdiv c.st + (i : Nat)) r.length = RW at *
  refine WA ?_
  refine aw_cond_f rfl ?_
  refine ZZ ?_
  refine ZR ?_
  iterate 3 refine WX1 ?_
  refine ZA (rd_cvb (b := 4) rfl Tryz.underlying232 Tryz.underlying5 Tryz.underlying9 rfl rfl) ?_
  refine WO ?_
  refine al_ef rfl (Zapp (KA (t := 26) rfl)) ?_
  rintro _ _ ⟨_, cc, hcc, rfl, rfl⟩
  refine WE ?_
  refine WA ?_
  have hnh := clo_has [3] caps hcl
  (try simp only [List.set_cons_zero, List.set_cons_succ, updH, posOf, lentArr, killF, killO, killV, AV.has, AV.hasL, AV.emb, AV.embL, OB.emb, embB, List.filter_cons, List.filter_nil, List.getElem?_cons_zero, List.getElem?_cons_succ, List.getD_cons_zero, List.getD_cons_succ, List.drop_succ_cons, List.drop_zero, List.drop_nil, List.contains_cons, List.contains_nil, Nat.reduceBEq, Nat.reduceEqDiff, beq_self_eq_true, Bool.or_false, Bool.false_or, Bool.or_true, Bool.true_or, Bool.false_eq_true, Option.map_some, Option.map_none, List.map_cons, List.map_nil, List.cons_append, List.nil_append, List.append_nil, List.length_cons, List.length_nil, Nat.reduceAdd, Nat.reduceLT, Nat.reduceSub, if_true, if_false, Nat.zero_add, Nat.add_zero, Nat.sub_zero, Nat.lt_irrefl, Nat.not_lt_zero, Nat.zero_lt_one, Nat.lt_add_one])
  simp only [killF, killV, AV.has, hnh, List.map_cons, List.map_nil, List.contains_cons, List.contains_nil, Nat.reduceBEq, Bool.or_false, Bool.false_eq_true, if_false]
  refine wk_of [some 0, some 1, some 2, some 3] (fun _ => [(1, .f (.func fn) caps), (2, .p 0 0 0), (4, .p 1 0 0), (5, .p 2 0 0), (6, .c (.r vp (sR L))), (22, .c (.r va (tR c.rows))), (23, .c (I (tR c.rows).length)), (24, .c (I (i + 1 : Nat)))]) (fun _ => [celB va c, .box [.c (I 0), .c (I 0), .c (I 0), .c (.r (.slice none 0 0) [])], .box [.c (I c.st), .c (I c.x), .c (I c.y), .o 3 0 (R ++ [RW]).length cc], .arr 9 1 cc (tR (R ++ [RW]))]) (by decide) (ZNL hE) ZCF ZCH (fun _ => ?_)
  exact ⟨m - 1, by omega, i + 1, cc, by omega, rfl, by rw [← hrl, hsn]⟩
 obtain rfl : i = c.rows.length := by omega
 have hRl : ∀ r ∈ rowsB Lf (c.x.tdiv c.st) (c.y.tdiv c.st) (wid c.rows) c.rows.length, r.length ≤ 1000000 ∧ okB2 r = true := fun r hr => by
  obtain ⟨j, _, rfl⟩ := List.mem_map.1 hr
  exact ⟨by rw [rowB_len]; omega, okB2_rowB _ _ _ _⟩
 generalize hRr : rowsB Lf (c.x.tdiv c.st) (c.y.tdiv c.st) (wid c.rows) c.rows.length = R at *
 have hRn : R.length ≤ 1000000 := by omega
 refine ZZ ?_
 refine aw_wk (wk_of (K := fun F H => ∃ vo, F = [(4, .p 1 0 0), (5, .p 2 0 0)] ∧ H = [celB va c, .box [.c (I 0), .c (I 0), .c (I 0), .c (.r (.slice none 0 0) [])], .box [.c (I c.st), .c (I c.x), .c (I c.y), .c (.r vo (tR R))]]) [some 0, some 1, some 2] (fun _ => [(4, .p 1 0 0), (5, .p 2 0 0)]) (fun g => [celB va c, .box [.c (I 0), .c (I 0), .c (I 0), .c (.r (.slice none 0 0) [])], .box [.c (I c.st), .c (I c.x), .c (I c.y), .c (.r (g (.o 3 0 R.length cp)) (tR R))]]) (by decide) (ZNL hE) ZCF (fun g => .box rfl (C0 rfl) (.box rfl (C0 rfl) (.box rfl (.cons (.c rfl) (.cons (.c rfl) (.cons (.c rfl) (.cons (.frz rfl rfl (by rw [List.drop_zero, List.take_of_length_le (by simp)]) (by simp) rfl) .nil)))) .nil))) (fun _ => ⟨_, rfl, rfl⟩)) ?_
 rintro F H ⟨vo, rfl, rfl⟩
 refine WR ?_
 refine al_ef rfl (ef_call0 false (fun _ => trimmed_v vo ⟨c.st, c.x, c.y, R⟩ hst2 hx2 hy2 hRn hRl) rfl .fn rfl (by decide) (by kernel_rfl) rfl (fun _ => C0 rfl) (by simp)) ?_
 rintro _ _ ⟨_, _, _, ⟨v', rfl, rfl⟩, hF, hH⟩
 rw [hfin] at hF
 (refine NST hF hH ?_; clear hF hH; rintro rfl rfl)
 refine WE ?_
 exact aret_a [] _ rfl (KK (t := 28) rfl) rfl (Cells.box rfl) (by first | (simp; done) | exact Nat.le_refl 4) (by (try simp only [nm, putL, Nat.reduceAdd, cellsOf, cvOf]) <;> rfl) (by decide) (ZNK rfl) (fun _ => C0 rfl) (fun _ => .nil) ⟨v', rfl, rfl⟩
end Go.Proofs.YtniolldgidgffaaGreatDoor

/- A struct that a closed pointer points to is loaded; the center of a cell; the reference's Covered and Left, by value. -/
-- NEWM
-- NILC
namespace Go.Proofs.YtniolldgidgffaaGreatDoor
open Go Go.RowKit
set_option maxRecDepth 100000
theorem rd_ldcs {P : Program} {N : Nat} {E : Env} {F : Fm} {H : List OB} {o : Oper} {t : TypeId} {x : Operand} {v : Value} {row : List CV} {n : Nat} {cs : List AV} (hcs : (row.take n).map .c = cs) (ho : o.op = .load t x) (ht : ldk P t = some (some n)) (hx : ev F x = some (.c (.p v row))) (hn : n ≤ row.length) : Rd P N E o F H (.a cs) := fun S ρ a w hR => by
 subst hcs
 obtain ⟨h1, h2⟩ := hR.ev hx
 cases h2 with
 | c g =>
  cases g with
  | p row B off hS hcell hg =>
   have hl := run_loadCellsFrom (P := P) (w := w) (B := B) (off := off) (vs := row.map CV.den) n 0 #[] (fun k hk => by
    have hkl : k < row.length := by omega
    rw [Nat.zero_add, hcell k row[k] (List.getElem?_eq_getElem hkl)]
    simp [hkl]) (by simpa using hn)
   refine ⟨?_, .a (fun x hx => ?_)⟩
   ·simp only [execOp, ho, h1, AV.den, CV.den, Instr.loadAt, Instr.sureAddr, loadVar, loadCells, Sem.run_bind, Sem.run_pure, Result.andThen_ok, (ldk_some (w := w) ht).1, (ldk_some (w := w) ht).2, hl, if_true, List.drop_zero, AV.denL_eq, List.map_take, List.map_map]
    simp
    rfl
   ·obtain ⟨y, hy, rfl⟩ := List.mem_map.1 hx
    exact .c (hg y (List.mem_of_mem_take hy))
theorem centq_v (va : Value) (c : Cel) (hs : 1 ≤ c.st ∧ c.st ≤ 10000) (x y : Int) (hx : -20000000 ≤ x ∧ x ≤ 20000000) (hy : -20000000 ≤ y ∧ y ≤ 20000000) : ACalls Tryz.prog 103 [celA va c, .a [.c (I x), .c (I y)]] [] fun u H => u = .a [.c (I (x * c.st + c.st / 2)), .c (I (y * c.st + c.st / 2))] ∧ H = [] := by
 have ehf : wrap64 (c.st.tdiv 2) = c.st / 2 := by
  rw [Int.tdiv_eq_ediv_of_nonneg (by omega)]
  exact IntWalk.wrap64_in _ (by constructor <;> omega)
 have hmul : ∀ z : Int, -20000000 ≤ z ∧ z ≤ 20000000 → -200000000000 ≤ z * c.st ∧ z * c.st ≤ 200000000000 := fun z hz => by
  have h : (z * c.st).natAbs ≤ 20000000 * 10000 := by rw [Int.natAbs_mul]; exact Nat.mul_le_mul (by omega) (by omega)
  omega
 have h1 := hmul x hx
 have h2 := hmul y hy
 have h3 : 0 ≤ c.st / 2 ∧ c.st / 2 ≤ 5000 := by omega
 refine acalls_of (N := 24) Tryz.func103 rfl rfl (by simp) fun E hE => ?_
 refine WA ?_
 refine ZR ?_
 iterate 7 refine WX1 ?_
 refine ZA (rd_quoP (z := c.st / 2) rfl rfl rfl (by decide) ehf) ?_
 iterate 8 refine WX1 ?_
 refine ZA (rd_quoP (z := c.st / 2) rfl rfl rfl (by decide) ehf) ?_
 refine WE ?_
 exact aret_a [] _ rfl (KK (t := 82) rfl) rfl (Cells.box rfl) (by first | (simp; done) | exact Nat.le_refl 2) (by (try simp only [nm, putL, Nat.reduceAdd, cellsOf, cvOf]) <;> rfl) (by decide) (ZNK rfl) (fun _ => C0 rfl) (fun _ => .nil) ⟨rfl, rfl⟩
end Go.Proofs.YtniolldgidgffaaGreatDoor
