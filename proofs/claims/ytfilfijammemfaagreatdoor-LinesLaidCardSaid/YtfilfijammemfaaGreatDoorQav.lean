/- strings.Builder's String, by rules: an array of bytes becomes a string and is known no more. -/
import Derived.Test.YtfilfijammemfaaGreatDoorQau
import Derived.Lib.UnsafeStr
import Derived.Laws.Pointers
import Derived.LaidEqlPtr
import Derived.Laws.LoneSync
set_option linter.unusedSimpArgs false
set_option linter.unusedVariables false
/- Grids, by value: covering a cell, the grid of cells. -/
-- NEWM
namespace Go.Proofs.YtfilfijammemfaaGreatDoor
open Go Go.RowKit
set_option maxRecDepth 100000
theorem set_v (st x y : Int) (w h : Nat) (on : List Bool) (n : Nat) (a b : Int) (i : Nat) (hn : on.length = n) (hi : (b - y) * (w : Int) + a - x = i) (hin : i < n) (hnb : n ≤ 1000000) (ha : -100000000 ≤ a ∧ a ≤ 100000000) (hb : -100000000 ≤ b ∧ b ≤ 100000000) (hx : -10000000 ≤ x ∧ x ≤ 10000000) (hy : -10000000 ≤ y ∧ y ≤ 10000000) : ACallsX true Tryz.prog 79 [.p 0 0 0, .c (I a), .c (I b)] [gB st x y w h 1 n, gArr n on] fun u H => u = .t [] ∧ H = [gB st x y w h 1 n, gArr n (on.set i true)] := by
 have hrow : (oR on)[i]? = some [B (on[i]'(by omega))] := by rw [List.getElem?_map, List.getElem?_eq_getElem (by omega)]; rfl
 refine acallsx_of true (N := 29) Tryz.func79 rfl rfl (by simp) fun E hE hP => ?_
 refine ZZ ?_
 refine aw_regionT [(0, none), (1, none), (2, none), (3, none), (4, none), (5, none), (6, none), (7, none), (8, none), (9, none), (10, none), (11, none), (12, none), (13, none), (14, none), (15, none), (16, none), (17, none), (18, none), (19, none), (20, none), (21, none), (22, none), (23, some [])] hMixed (by kernel_rfl) ?_
 iterate 22 refine WX2 ?_
 refine ZT rfl (rd_index (i := i) rfl (KE (t := 143) rfl) rfl rfl rfl (by omega) (by omega)) ?_
 refine WQ ?_
 exact aret_0 [some 0, some 1] (fun _ => [gB st x y w h 1 n, gArr n (on.set i true)]) (.inr rfl) rfl (by decide) (ZNK rfl) (fun _ => .box rfl (.cons (.c rfl) (.cons (.c rfl) (.cons (.c rfl) (.cons (.c rfl) (.cons (.c rfl) (.cons (.o rfl rfl) .nil)))))) (.arr rfl (by simp [oR, List.map_set]) .nil)) (fun _ => ⟨rfl, rfl⟩)
abbrev tR (l : List (List UInt8)) : List (List CV) := l.map fun r => [T r]
abbrev celA (v : Value) (c : Cel) : AV := .a [.c (I c.st), .c (I c.x), .c (I c.y), .c (.r v (tR c.rows))]
abbrev celB (v : Value) (c : Cel) : OB := .box [.c (I c.st), .c (I c.x), .c (I c.y), .c (.r v (tR c.rows))]
def bitK (w : Nat) (rows : List (List UInt8)) (i k : Nat) : List Bool := ((rows.flatten.map (· == 35)).take (i * w + k)) ++ List.replicate (w * rows.length - (i * w + k)) false
theorem bitK_0 (w : Nat) (rows : List (List UInt8)) : bitK w rows 0 0 = List.replicate (w * rows.length) false := by simp [bitK]
theorem bitK_row (w : Nat) (rows : List (List UInt8)) (i : Nat) : bitK w rows i w = bitK w rows (i + 1) 0 := by unfold bitK; rw [Nat.succ_mul, Nat.add_zero]
theorem bitK_len {w : Nat} {rows : List (List UInt8)} (h : ∀ r ∈ rows, r.length = w) {i k : Nat} (hi : i * w + k ≤ w * rows.length) : (bitK w rows i k).length = w * rows.length := by
 unfold bitK
 rw [List.length_append, List.length_take, List.length_map, flat_len h, List.length_replicate]
 omega
theorem bitK_end {w : Nat} {rows : List (List UInt8)} (h : ∀ r ∈ rows, r.length = w) : bitK w rows rows.length 0 = rows.flatten.map (· == 35) := by
 unfold bitK
 rw [Nat.add_zero, Nat.mul_comm, Nat.sub_self, List.take_of_length_le (by rw [List.length_map, flat_len h]; exact Nat.le_refl _)]
 simp
theorem bitK_next {w : Nat} {rows : List (List UInt8)} (h : ∀ r ∈ rows, r.length = w) {i k : Nat} {r : List UInt8} {b : UInt8} (hr : rows[i]? = some r) (hb : r[k]? = some b) : bitK w rows i (k + 1) = (bitK w rows i k).set (i * w + k) (b == 35) := by
 have hi := (List.getElem?_eq_some_iff.1 hr).1
 have hk : k < w := by rw [← h r (List.mem_of_getElem? hr)]; exact (List.getElem?_eq_some_iff.1 hb).1
 have hf := flat_at h hk hi
 rw [hr, Option.getD_some, hb] at hf
 have hfl := flat_len h
 have hlt := (List.getElem?_eq_some_iff.1 hf).1
 unfold bitK
 rw [show i * w + (k + 1) = i * w + k + 1 by omega, List.take_add_one, List.getElem?_map, hf, List.set_append_right _ _ (by rw [List.length_take, List.length_map]; omega), List.length_take, List.length_map, Nat.min_eq_left (by omega), Nat.sub_self]
 rw [show w * rows.length - (i * w + k) = (w * rows.length - (i * w + k + 1)) + 1 by omega, List.replicate_succ]
 simp
theorem row_lt {w : Nat} {rows : List (List UInt8)} {i k : Nat} (hi : i < rows.length) (hk : k < w) : i * w + k < w * rows.length := by
 have h2 := Nat.mul_le_mul_right w (show i + 1 ≤ rows.length by omega)
 rw [Nat.succ_mul, Nat.mul_comm rows.length] at h2
 omega
theorem mul_bd {q s x : Int} (h : q * s = x) (hs : 1 ≤ s) (hx : -2000000 ≤ x ∧ x ≤ 2000000) : -2000000 ≤ q ∧ q ≤ 2000000 := by
 rcases Int.le_total 0 q with h0 | h0
 ·have := Int.mul_le_mul_of_nonneg_left hs h0
  omega
 ·have := Int.mul_le_mul_of_nonpos_left (a := q) h0 hs
  omega
theorem grdOf_ok {c : Cel} (h : RCel c) : GOk (grdOf c) := by
 have h1 := h.w
 have h2 := h.h
 have h3 := h.far
 have h4 := h.at
 have h5 := h.st
 have h6 := mul_bd h4.1 (by omega) h3.1
 have h7 := mul_bd h4.2 (by omega) h3.2
 refine ⟨grdOf_len h, ?_, ?_, ?_, ?_⟩ <;> unfold grdOf <;> split <;> simp only <;> omega
theorem oR_take (l : List Bool) : ((oR l).drop 0).take l.length = oR l := by rw [List.drop_zero, List.take_of_length_le (by simp)]
set_option maxHeartbeats 2000000 in
theorem gridof_v (v : Value) (c : Cel) (h : RCel c) : ACalls Tryz.prog 44 [celA v c] [] fun u H => ∃ pv ov, u = gV pv ov (grdOf c) ∧ H = [] := by
 have hst := h.st
 have hh := h.h
 have hw := h.w
 have hfar := h.far
 have hrow := h.row
 have hok := grdOf_ok h
 have hbd := mul_bd h.at.1 (by omega) hfar.1
 have hbe := mul_bd h.at.2 (by omega) hfar.2
 have hg : grdOf c = if c.rows = [] then ⟨c.st, 0, 0, 0, 0, []⟩ else ⟨c.st, c.x.tdiv c.st, c.y.tdiv c.st, wid c.rows, c.rows.length, c.rows.flatten.map (· == 35)⟩ := rfl
 obtain ⟨st, x, y, rows⟩ := c
 simp only at hst hh hw hfar hrow hbd hbe hg
 have e1 : (tR rows).length = rows.length := by simp
 generalize grdOf ⟨st, x, y, rows⟩ = G at hg hok ⊢
 refine acalls_of (N := 68) Tryz.func44 rfl rfl (by simp) fun E hE => ?_
 refine WA ?_
 refine WA ?_
 refine aw_if rfl (fun h0 => ?_) (fun h0 => ?_)
 ·have hr : rows = [] := List.eq_nil_of_length_eq_zero (by omega)
  rw [if_pos hr] at hg
  subst hg
  refine WR ?_
  refine al_ef rfl (ef_call0 false (fun _ => newgrid_v st 0 0 0 0 (by omega) (by omega)) rfl .fn rfl (by decide) (by kernel_rfl) rfl (fun _ => C0 rfl) (by simp)) ?_
  rintro _ _ ⟨_, _, _, ⟨rfl, rfl⟩, hF, hH⟩
  (refine NST hF hH ?_; clear hF hH; rintro rfl rfl)
  refine WE ?_
  exact aret_fp [] (fun g => gRow ⟨st, 0, 0, 0, 0, []⟩ (g (.o 2 0 (0 * 0) (0 * 0)))) [] rfl rfl rfl rfl (fun g => .cons (.c rfl) (.cons (.c rfl) (.cons (.c rfl) (.cons (.c rfl) (.cons (.c rfl) (.cons (.frz rfl rfl rfl rfl rfl) .nil)))))) (by decide) (ZNK rfl) (fun _ => .nil) (fun pv g => ⟨pv, _, rfl, rfl⟩)
 have hr : rows ≠ [] := fun e => h0 (by rw [e1, e]; rfl)
 rw [if_neg hr] at hg
 obtain ⟨r0, rs, hrs⟩ : ∃ r0 rs, rows = r0 :: rs := by
  cases rows with
  | nil => exact absurd rfl hr
  | cons r rs => exact ⟨r, rs, rfl⟩
 have hwr : wid rows = r0.length := by rw [hrs]; rfl
 rw [hwr] at hg hw hrow
 have hrow0 : (tR rows)[0]? = some [T r0] := by rw [hrs]; rfl
 have hlen : ∀ r ∈ rows, r.length = r0.length := fun r hr => (hrow r hr).1
 clear hrow hwr hrs
 refine ZZ ?_
 refine aw_regionT [(0, none), (1, none), (2, none), (3, none), (4, none), (5, none), (6, none), (7, none), (8, none), (9, none), (10, none), (11, none), (12, none), (13, none), (14, none), (15, none), (16, none), (17, none), (18, none), (19, none), (20, some []), (21, none)] hMixed (by kernel_rfl) ?_
 refine WP ?_
 refine at_ef rfl rfl (ef_call0 false (fun _ => newgrid_v st (x.tdiv st) (y.tdiv st) r0.length (tR rows).length (by omega) (by omega)) rfl .fn rfl (by decide) (by kernel_rfl) rfl (fun _ => C0 rfl) (by simp)) ?_
 rintro _ _ ⟨_, _, _, ⟨rfl, rfl⟩, hF, hH⟩
 rw [e1] at hH
 (refine NST hF hH ?_; clear hF hH; rintro rfl rfl)
 refine ⟨ag_none, ?_⟩
 refine WQ ?_
 have hbl := fun i k => bitK_len (w := r0.length) (rows := rows) hlen (i := i) (k := k)
 have hnb : r0.length * rows.length ≤ 1000000 := Nat.le_trans (Nat.mul_le_mul hw hh) (by decide)
 have hgL : (⟨st, x.tdiv st, y.tdiv st, r0.length, rows.length, rows.flatten.map (· == 35)⟩ : Grd) = G := hg.symm
 refine WA ?_
 refine aw_loopw (fun m F H => ∃ i : Nat, m + i = rows.length ∧ F = [(3, .p 1 0 0), (36, .c (.r v (tR rows))), (37, .c (I (tR rows).length)), (38, .c (I i))] ∧ H = [celB v ⟨st, x, y, rows⟩, gB st (x.tdiv st) (y.tdiv st) r0.length rows.length 2 (r0.length * rows.length), gArr (r0.length * rows.length) (bitK r0.length rows i 0)]) ?_ ?_
 ·refine wk_of [some 0, some 1, some 2] (fun _ => [(3, .p 1 0 0), (36, .c (.r v (tR rows))), (37, .c (I (tR rows).length)), (38, .c (I (0 : Nat)))]) (fun _ => [celB v ⟨st, x, y, rows⟩, gB st (x.tdiv st) (y.tdiv st) r0.length rows.length 2 (r0.length * rows.length), gArr (r0.length * rows.length) (bitK r0.length rows 0 0)]) (by decide) (ZNL hE) ZCF (by rw [bitK_0]; exact ZCH) (fun _ => ?_)
  exact ⟨rows.length, 0, by omega, rfl, rfl⟩
 rintro m F H ⟨i, hi, rfl, rfl⟩
 refine WA ?_
 refine aw_if rfl (fun hlt => ?_) (fun hge => ?_)
 ·obtain ⟨r, hri⟩ : ∃ r, rows[i]? = some r := ⟨_, List.getElem?_eq_getElem (by omega)⟩
  have hrl := hlen r (List.mem_of_getElem? hri)
  have hrowi : (tR rows)[i]? = some [T r] := by rw [List.getElem?_map, hri]; rfl
  have hil : i < rows.length := by omega
  refine WA ?_
  refine WA ?_
  refine aw_loopw (fun m2 F H => ∃ k : Nat, m2 + k = r0.length ∧ F = [(3, .p 1 0 0), (4, .c (I i)), (5, .c (T r)), (36, .c (.r v (tR rows))), (37, .c (I (tR rows).length)), (38, .c (I i)), (44, .c (I r.length)), (45, .c (I k))] ∧ H = [celB v ⟨st, x, y, rows⟩, gB st (x.tdiv st) (y.tdiv st) r0.length rows.length 2 (r0.length * rows.length), gArr (r0.length * rows.length) (bitK r0.length rows i k)]) ?_ ?_
  ·refine wk_of [some 0, some 1, some 2] (fun _ => [(3, .p 1 0 0), (4, .c (I i)), (5, .c (T r)), (36, .c (.r v (tR rows))), (37, .c (I (tR rows).length)), (38, .c (I i)), (44, .c (I r.length)), (45, .c (I (0 : Nat)))]) (fun _ => [celB v ⟨st, x, y, rows⟩, gB st (x.tdiv st) (y.tdiv st) r0.length rows.length 2 (r0.length * rows.length), gArr (r0.length * rows.length) (bitK r0.length rows i 0)]) (by decide) (ZNL hE) ZCF ZCH (fun _ => ?_)
   exact ⟨r0.length, 0, by omega, rfl, rfl⟩
  rintro m2 F H ⟨k, hk, rfl, rfl⟩
  refine WA ?_
  refine aw_if rfl (fun hlt2 => ?_) (fun hge2 => ?_)
  ·obtain ⟨b, hb⟩ : ∃ b, r[k]? = some b := ⟨_, List.getElem?_eq_getElem (by omega)⟩
   have hjl := row_lt (w := r0.length) (rows := rows) hil (show k < r0.length by omega)
   have hnx := bitK_next hlen hri hb
   have hbk := hbl i k (by omega)
   have hj : ((i : Int) * (r0.length : Int)) + k = (i * r0.length + k : Nat) := by simp
   have hjb : (i : Int) * (r0.length : Int) = (i * r0.length : Nat) := by simp
   have hrw : (oR (bitK r0.length rows i k))[i * r0.length + k]? = some [B ((bitK r0.length rows i k)[i * r0.length + k]'(by omega))] := by rw [List.getElem?_map, List.getElem?_eq_getElem (by omega)]; rfl
   refine WA ?_
   refine ZZ ?_
   refine aw_regionT [(0, none), (1, none), (2, none), (3, none), (4, none), (5, none), (6, none), (7, none), (8, none), (9, none), (10, none), (11, none), (12, none), (13, none), (14, none), (15, none), (16, none), (17, some [])] hMixed (by kernel_rfl) ?_
   iterate 16 refine WX2 ?_
   refine ZT rfl (rd_index (i := i * r0.length + k) rfl (KE (t := 143) rfl) rfl rfl rfl (by omega) (by omega)) ?_
   refine WQ ?_
   refine WA ?_
   refine wk_of [some 0, some 1, some 2] (fun _ => [(3, .p 1 0 0), (4, .c (I i)), (5, .c (T r)), (36, .c (.r v (tR rows))), (37, .c (I (tR rows).length)), (38, .c (I i)), (44, .c (I r.length)), (45, .c (I (k + 1 : Nat)))]) (fun _ => [celB v ⟨st, x, y, rows⟩, gB st (x.tdiv st) (y.tdiv st) r0.length rows.length 2 (r0.length * rows.length), gArr (r0.length * rows.length) (bitK r0.length rows i (k + 1))]) (by decide) (ZNL hE) ZCF ?_ (fun _ => ?_)
   ·exact fun _ => .box rfl (C0 rfl) (.box rfl (cvg rfl) (.arr rfl (by rw [hnx, u8_35, Nat.zero_add]; simp [List.map_set]) .nil))
   ·exact ⟨m2 - 1, by omega, k + 1, by omega, rfl, rfl⟩
  obtain rfl : k = r0.length := by omega
  rw [bitK_row]
  refine ZZ ?_
  refine WA ?_
  refine wk_of [some 0, some 1, some 2] (fun _ => [(3, .p 1 0 0), (36, .c (.r v (tR rows))), (37, .c (I (tR rows).length)), (38, .c (I (i + 1 : Nat)))]) (fun _ => [celB v ⟨st, x, y, rows⟩, gB st (x.tdiv st) (y.tdiv st) r0.length rows.length 2 (r0.length * rows.length), gArr (r0.length * rows.length) (bitK r0.length rows (i + 1) 0)]) (by decide) (ZNL hE) ZCF ZCH (fun _ => ?_)
  exact ⟨m - 1, by omega, i + 1, by omega, rfl, rfl⟩
 obtain rfl : i = rows.length := by omega
 rw [bitK_end hlen]
 refine ZZ ?_
 refine WA ?_
 have hfl : (rows.flatten.map (· == 35)).length = r0.length * rows.length := by rw [List.length_map, flat_len hlen]
 rw [hg]
 exact aret_fp [] (fun g => gRow ⟨st, x.tdiv st, y.tdiv st, r0.length, rows.length, rows.flatten.map (· == 35)⟩ (g (.o 2 0 (r0.length * rows.length) (r0.length * rows.length)))) [] rfl rfl rfl rfl (fun g => .cons (.c rfl) (.cons (.c rfl) (.cons (.c rfl) (.cons (.c rfl) (.cons (.c rfl) (.cons (.frz rfl rfl (by rw [← hfl, oR_take]) (by simp only [List.length_map] at hfl ⊢; exact hfl) rfl) .nil)))))) (by decide) (ZNK rfl) (fun _ => .nil) (fun pv g => ⟨pv, _, rfl, rfl⟩)
end Go.Proofs.YtfilfijammemfaaGreatDoor

/- strings.Builder, by value. -/
-- NEWM
namespace Go.Proofs.YtfilfijammemfaaGreatDoor
open Go Go.RowKit
set_option maxRecDepth 100000
section
variable {P : Program} {N : Nat} {E : Env} {F : Fm} {H : List OB} {o : Oper} {S : Nat → Prop} {ρ : List (Option Nat)} {a : Act} {w : World} {t yt : TypeId} {x y : Operand}
theorem ef_alloct {d : Nat} {z : Value} {vs : List Value} (ho : o.op = .alloc t) (hd : o.dst = some d) (hN : d < N) (hz : (P.info? t).bind (·.zero) = some z) (hc : z.cells = vs.toArray) (h1 : vs.all Value.oneCell' = true) :
    Ef P N E o F H fun F' H' => F' = (d, .p H.length 0 0) :: F ∧ H' = H ++ [.boxt t (vs.map fun v => .c (cvOf v))] :=
 ef_of hd hN ⟨rfl, rfl⟩ fun S ρ a w hR => by
  refine ⟨S, ρ ++ [some w.heap.size], w.alloc (.cells z.cells t), ?_, ?_, wf_snoc_p hR.hp _⟩
  ·have hzr : (zeroValue t).run P w = .ok z w := by
    unfold zeroValue typeInfo
    cases hi : P.info? t with
    | none => rw [hi] at hz; cases hz
    | some i =>
     rw [hi] at hz
     simp only [Option.bind_some] at hz
     simp [hi, hz]
   rw [den_snoc_p hR.hp]
   simp [execOp, ho, Instr.alloc, hzr, newVar, newRow]
  ·have he := Ex.snoc (ρ := ρ) (H := H) hR.hp.len (some w.heap.size) (.boxt t (vs.map fun v => .c (cvOf v)))
   refine hR.newO (.cells z.cells t) (.boxt t (vs.map fun v => .c (cvOf v))) ⟨w.heap.size, rfl, ?_, fun x hx => ?_⟩
   ·rw [heap_new, hc, List.map_map]
    congr 2
    rw [List.map_congr_left (g := id) (fun v _ => by simp [AV.den, cvOf_den]), List.map_id]
   ·obtain ⟨v, hv, rfl⟩ := List.mem_map.1 hx
    exact ⟨.c (cvOf_good _ _ _), by rw [AV.den, cvOf_den]; exact List.all_eq_true.1 h1 v hv⟩
theorem ef_storet {v : AV} {b j n : Nat} {tt : TypeId} {l l' : List AV} (ho : o.op = .store t x y) (hd : o.dst = none) (hx : ev F x = some (.p b 0 j)) (hH : H[b]? = some (.boxt tt l)) (hy : ev F y = some v) (ht : (P.info? t).map (·.size) = some n) (hn : (cellsOf v).length = n)
    (hj : j + n ≤ l.length) (h1 : (cellsOf v).all AV.one = true) (hl : putL l j (cellsOf v) = l') :
    Ef P N E o F H fun F' H' => F' = F ∧ H' = H.set b (.boxt tt l') := fun S ρ a w hR => by
 subst hl
 obtain ⟨g1, _⟩ := hR.ev hx
 obtain ⟨g3, g4⟩ := hR.ev hy
 obtain ⟨hc1, hc2⟩ := cellsOf_spec g4 h1
 obtain ⟨B, hB, hh, hb⟩ := hR.hp.blk _ _ hH
 have hz : (sizeOf t).run P w = .ok n w := by
  unfold sizeOf typeInfo
  cases hi : P.info? t with
  | none => rw [hi] at ht; cases ht
  | some i => rw [hi] at ht; simp at ht; simp [hi, ht]
 have hrun := run_storeCells (P := P) (off := j) ((cellsOf v).map (AV.den ρ H)) 0 w _ hh (by simp; omega) (fun u hu => by
  obtain ⟨x, hx, rfl⟩ := List.mem_map.1 hu
  exact (hc2 x hx).2)
 rw [Nat.add_zero] at hrun
 unfold effO
 have hex : (execOp a.eval o).run P w = .ok .skip (putBlk w B (.cells (setAll (l.map (AV.den ρ H)).toArray j ((cellsOf v).map (AV.den ρ H))) tt (0, 0))) := by
  simp only [execOp, ho, g1, g3, AV.den, hB, Option.map_some, Instr.storeAt, Instr.sureAddr, storeVar, Sem.run_bind, Sem.run_pure, Result.andThen_ok, hz, hc1, List.size_toArray, List.length_map, hn, ne_eq, not_true_eq_false, if_false,
   Nat.zero_mul, Nat.zero_add]
  rw [hrun]
  rfl
 rw [hex]
 refine ⟨S, ρ, _, _, ⟨rfl, rfl⟩, ?_⟩
 rw [hd]
 have he := Ex.set (ρ := ρ) (ob' := .boxt tt (putL l j (cellsOf v))) hH rfl rfl (fun _ => rfl)
 refine R.set (ob := .boxt tt l) hR hH hB rfl rfl (fun _ => rfl) (putBlk_size _ _) ⟨B, rfl, ?_, fun x hx => ?_⟩
 ·rw [putBlk_at hh]
  congr 2
  refine Array.ext_getElem? fun k => ?_
  rw [setAll_get _ _ _ _ (by simp; omega)]
  simp only [List.length_map, List.getElem?_map, List.getElem?_toArray]
  rw [putL_get (by omega)]
  have hden : ∀ x, x ∈ cellsOf v ∨ x ∈ l → x.den ρ (H.set b (.boxt tt (putL l j (cellsOf v)))) = x.den ρ H := fun x hx => by
   rcases hx with hx | hx
   ·exact (hc2 x hx).1.den_ex he
   ·exact (hb x hx).1.den_ex he
  split
  ·cases hq : (cellsOf v)[k - j]? with
   | none => rfl
   | some x => simp only [Option.map_some]; rw [hden x (.inl (List.mem_of_getElem? hq))]
  ·cases hq : l[k]? with
   | none => rfl
   | some x => simp only [Option.map_some]; rw [hden x (.inr (List.mem_of_getElem? hq))]
 ·have hm := mo_put hR.hp hB (.cells (setAll (l.map (AV.den ρ H)).toArray j ((cellsOf v).map (AV.den ρ H))) tt (0, 0))
  rcases mem_putL hx with hx | hx
  ·exact ⟨(hc2 x hx).1.ex he hm, by rw [(hc2 x hx).1.den_ex he]; exact (hc2 x hx).2⟩
  ·exact ⟨(hb x hx).1.ex he hm, by rw [(hb x hx).1.den_ex he]; exact (hb x hx).2⟩
theorem ptr_guard {op : BinOp} {w : World} {p q : Option Addr} : (eqGuard op t x y (.pointer p) (.pointer q)).run P w = .ok () w := by unfold eqGuard; split <;> rfl
theorem ptr_same {te : TypeId} {n : Nat} {w : World} (a : Addr) (hp : P.underlying t = some (.pointer te)) (hs : (P.info? te).map (·.size) = some (n + 1)) : (binOp .neq t (.pointer (some a)) (.pointer (some a))).run P w = .ok (.bool false) w := by
 obtain ⟨j, hj, _⟩ := Option.map_eq_some_iff.1 hs
 have h : ∀ d : Nat, (Op.equalIn (d + 1) t (.pointer (some a)) (.pointer (some a))).run P w = .ok true w := fun d => by
  simp [Op.equalIn, st_under hp, sizeOf, typeInfo, hj, run_sameAddr_same]
 simp only [binOp]
 simp [Op.equal, Op.maxDepth, h 9999]
theorem rd_pnil (ho : o.op = .binOp .eql t x (.const (.pointer none)) yt) (ht : P.underlying t = some (.pointer (P.pointee t))) (hx : ev F x = some (.c (.s (.pointer none)))) : Rd P N E o F H (.c (.s (.bool true))) :=
 rd_bin ho hx rfl (fun _ _ => rfl) (fun _ _ => rfl) fun w => by
  rw [Sem.run_bind]
  refine Eq.trans (congrArg (fun r => Result.andThen r _) ptr_guard) ?_
  exact run_eql_pointer_nil w t none ht
theorem rd_pnot {b k j : Nat} (ho : o.op = .binOp .eql t x (.const (.pointer none)) yt) (ht : P.underlying t = some (.pointer (P.pointee t))) (hx : ev F x = some (.p b k j)) : Rd P N E o F H (.c (.s (.bool false))) := fun S ρ a w hR => by
 obtain ⟨h1, h2⟩ := hR.ev hx
 cases h2 with
 | p h0 h =>
  obtain ⟨B, hB⟩ := Option.isSome_iff_exists.1 h
  rw [AV.den, hB, Option.map_some] at h1
  refine ⟨?_, .c (.s _)⟩
  have h3 : a.eval (.const (.pointer none)) = .pointer none := rfl
  simp only [execOp, ho, h1, h3]
  rw [Sem.run_bind, Sem.run_bind, ptr_guard, Result.andThen_ok, run_eql_pointer_nil w t _ ht]
  rfl
theorem rd_psame {e : TypeId} {n : Nat} {b k j : Nat} (ho : o.op = .binOp .neq t x y yt) (ht : P.underlying t = some (.pointer e)) (hs : (P.info? e).map (·.size) = some (n + 1)) (hx : ev F x = some (.p b k j)) (hy : ev F y = some (.p b k j)) : Rd P N E o F H (.c (.s (.bool false))) := fun S ρ a w hR => by
 obtain ⟨h1, h2⟩ := hR.ev hx
 have h1' := (hR.ev hy).1
 cases h2 with
 | p h0 h =>
  obtain ⟨B, hB⟩ := Option.isSome_iff_exists.1 h
  rw [AV.den, hB, Option.map_some] at h1 h1'
  refine ⟨?_, .c (.s _)⟩
  simp only [execOp, ho, h1, h1']
  rw [Sem.run_bind, Sem.run_bind, ptr_guard, Result.andThen_ok, ptr_same _ ht hs]
  rfl
theorem rd_tounsafe {src dst e : TypeId} {b j : Nat} {tt : TypeId} {l : List AV} (ho : o.op = .convert src dst x) (hs : P.underlying src = some (.pointer e)) (hd : P.underlying dst = some .unsafePointer) (hsz : (P.info? e).map (fun i => decide (i.size = 0)) = some false) (hx : ev F x = some (.p b 0 j)) (hH : H[b]? = some (.boxt tt l)) (hj : j < l.length) : Rd P N E o F H (.p b 0 j) := fun S ρ a w hR => by
 obtain ⟨h1, h2⟩ := hR.ev hx
 obtain ⟨B, hB, hh, _⟩ := hR.hp.blk _ _ hH
 have hs0 : szAt H b = 0 := by unfold szAt; rw [hH]; rfl
 rw [AV.den, hB, hs0] at h1
 have hc : w.cell? ⟨B, j, none⟩ = some ((l[j]'hj).den ρ H) := by
  unfold World.cell?; rw [hh]; simp [hj]
 have := run_convert_to_unsafe (P := P) hs hd hsz hc
 refine ⟨?_, h2⟩
 simp only [Option.map_some, Nat.zero_mul, Nat.zero_add] at h1
 simp [execOp, ho, h1, this, AV.den, hB, hs0]
theorem rd_fromunsafe {src dst : TypeId} {b : Nat} {tt : TypeId} {l : List AV} (ho : o.op = .convert src dst x) (hs : P.underlying src = some .unsafePointer) (hd : P.underlying dst = some (.pointer tt)) (hsi : (P.info? tt).map (·.size) = some l.length) (hl0 : 0 < l.length) (hlie : liesAt P P.depth tt 1 0 tt 1 = true) (hx : ev F x = some (.p b 0 0)) (hH : H[b]? = some (.boxt tt l)) : Rd P N E o F H (.p b 0 0) := fun S ρ a w hR => by
 obtain ⟨h1, h2⟩ := hR.ev hx
 obtain ⟨i, hi, hsz⟩ := Option.map_eq_some_iff.1 hsi
 obtain ⟨B, hB, hh, _⟩ := hR.hp.blk _ _ hH
 have hs0 : szAt H b = 0 := by unfold szAt; rw [hH]; rfl
 rw [AV.den, hB, hs0] at h1
 simp only [Option.map_some, Nat.zero_mul, Nat.zero_add] at h1
 have hsh : w.shape? B = some (tt, l.length) := by unfold World.shape?; rw [hh]; simp
 refine ⟨?_, h2⟩
 have hco : P.cellsOf tt = l.length := by unfold Program.cellsOf; rw [hi]; simpa using hsz
 have hvar : (variablesAt ⟨B, 0, none⟩ tt 1).run P w = .ok true w := by
  unfold variablesAt
  simp [hsh, hco, Nat.div_self hl0, hlie]
 simp [execOp, ho, h1, convert, st_under hs, st_under hd, Conv.unsafePointer, Conv.seenAt, viewAt, hsh, sizeOf, typeInfo, hi, hsz, hvar, AV.den, hB, hs0]
end
end Go.Proofs.YtfilfijammemfaaGreatDoor

/- strings.Builder's String, by rules: an array of bytes becomes a string and is known no more. -/
namespace Go.Proofs.YtfilfijammemfaaGreatDoor
open Go Go.RowKit
set_option maxRecDepth 100000
section
variable {P : Program} {N : Nat} {E : Env} {F : Fm} {H : List OB} {o : Oper} {S : Nat → Prop} {ρ : List (Option Nat)} {a : Act} {w w' : World} {t yt : TypeId} {x y : Operand}
theorem R.kill {b B sz cap : Nat} {e : TypeId} {rows : List (List CV)} (hR : R N E S ρ F H a w) (hB : atB ρ b = some B) (hH : H[b]? = some (.arr e sz cap rows)) (hs : w'.heap.size = w.heap.size) (hne : ∀ k, k ≠ B → w'.heap[k]? = w.heap[k]?) (hos : w'.os = w.os) (ht : w'.tape = w.tape) (hou : w'.output = w.output) (hdr : w'.drawn = w.drawn) (hp : E.pin = false) :
    R N E S ρ (killF (AV.den ρ H) [b] F) ((H.map (killO (AV.den ρ H) [b])).set b .dead) a w' := by
 have hblt : b < H.length := (List.getElem?_eq_some_iff.1 hH).1
 have he : ExB [b] ρ H ρ ((H.map (killO (AV.den ρ H) [b])).set b .dead) := by
  refine ⟨fun i hi hne => rfl, fun i hi hne => ?_, fun i hi hne => ?_, by simp⟩
  all_goals replace hne : i ≠ b := by simpa using hne
  ·unfold szAt; rw [List.getElem?_set_ne (Ne.symm hne), List.getElem?_map, List.getElem?_eq_getElem hi]; simp [killO_sz]
  ·unfold capAt; rw [List.getElem?_set_ne (Ne.symm hne), List.getElem?_map, List.getElem?_eq_getElem hi]; simp [killO_cap]
 have hm : Mo w S w' S := fun k hk => ⟨hk, hne k (fun e => hR.hp.ap b B hB (e ▸ hk))⟩
 have hin : ∀ i k B, inP ((H.map (killO (AV.den ρ H) [b])).set b .dead) i k B → inP H i k B := fun i k B hi => inP_kill (inP_set (fun _ _ h => by obtain ⟨l, h⟩ := hasP_pool h; cases h) hi)
 refine ⟨hR.df, hR.sz, fun i y hy => ?_, ⟨by simpa using hR.hp.len, hR.hp.nd, hR.hp.ap, fun i B' hi => by rw [hs]; exact hR.hp.lt i B' hi, fun k hk => by rw [hs]; exact hR.hp.sS k hk, fun i y hy => ?_, hR.hp.pl.same hin (by rw [hs]; exact Nat.le_refl _)⟩, ?_, hR.nw, hR.nS, fun i k B' h => hR.pw i k B' (hin i k B' h), fun i hi => ?_, fun hpp => by rw [hp] at hpp; cases hpp⟩
 ·obtain ⟨y', h1, rfl⟩ := lookup_killF hy
  obtain ⟨h2, h3⟩ := hR.fr i y' h1
  obtain ⟨h4, h5⟩ := h3.killed he hm
  exact ⟨by rw [h4]; exact h2, h5⟩
 ·rw [List.getElem?_set] at hy
  split at hy
  ·split at hy
   ·injection hy with hy; subst hy; trivial
   ·cases hy
  ·rename_i hbi
   rw [List.getElem?_map] at hy
   cases hz : H[i]? with
   | none => rw [hz] at hy; cases hy
   | some ob =>
    rw [hz] at hy
    simp only [Option.map_some, Option.some.injEq] at hy
    subst hy
    exact (hR.hp.blk i ob hz).killed he hm (fun B' hB' => hne B' (fun e => hbi (hR.hp.nd _ _ _ hB (e ▸ hB')))) (fun k B' hB' => hne B' (fun e => (hR.hp.pl.ps i k B' ⟨ob, hz, hB'⟩).2.1 b (e ▸ hB)))
 ·refine ⟨hos.trans hR.st.os, ht.trans hR.st.tape, hou.trans hR.st.output, by rw [hs]; exact hR.st.size, fun k hk hW => ?_, by rw [hdr]; exact hR.st.drawn⟩
  have : k ≠ B := fun e => by
   subst e
   rcases hR.nw b k hB with (h' | h') | h'
   ·omega
   ·exact hW (.inr h')
   ·exact hW (.inl ⟨_, h'.2⟩)
  rw [hne k this]
  exact hR.st.block k hk hW
 ·obtain ⟨h1, h2⟩ := hR.ln i hi
  refine ⟨by simpa using h1, fun o ho hs => ?_⟩
  obtain ⟨h3, o', h4, h5⟩ := h2 o ho hs
  have hib : i ≠ b := fun e => by rw [e, hH] at h4; injection h4 with h4; subst h4; exact hs h5.symm
  exact ⟨h3, killO (AV.den ρ H) [b] o', by rw [List.getElem?_set_ne (Ne.symm hib), List.getElem?_map, h4]; rfl, by rw [killO_shp]; exact h5⟩
theorem rd_sldata {b k n c : Nat} (ho : o.op = .call { callee := .builtin .unsafeSliceData, args := #[x], argTypes := #[t] }) (hx : ev F x = some (.o b k n c)) (hc : 0 < c) (hn : 0 < n) : Rd P N E o F H (.p b k 0) := fun S ρ a w hR => by
 obtain ⟨h1, h2⟩ := hR.ev hx
 cases h2 with
 | o h0 h3 h4 h5 =>
  cases hB : atB ρ b with
  | none => have := (h5 hB).1; omega
  | some B =>
   rw [AV.den, hB, Option.map_some] at h1
   refine ⟨?_, .p h0 (by rw [hB]; rfl)⟩
   have := Lib.run_unsafeSliceData_row (P := P) w #[t] o.type ⟨B, k * szAt H b, none⟩ n c (by omega)
   simp [execOp, ho, resolve, invoke, builtin, h1, this, AV.den, hB]
theorem ef_ustr {e t2 : TypeId} {b d cap : Nat} {l : List UInt8} (ho : o.op = .call { callee := .builtin .unsafeString, args := #[x, y], argTypes := #[t, t2] }) (hd : o.dst = some d) (hN : d < N) (hp : P.underlying t = some (.pointer e)) (hce : P.cellsOf e = 1) (hx : ev F x = some (.p b 0 0)) (hy : ev F y = some (.c (.s (.int .i64 l.length)))) (hH : H[b]? = some (.arr e 1 cap (l.map fun c => [.s (.int .u8 c.toNat)]))) (h0 : 0 < l.length) (h63 : l.length ≤ 9223372036854775807) (hpin : E.pin = false) :
    Ef P N E o F H fun F' H' => ∃ g, F' = (d, .c (T l)) :: killF g [b] F ∧ H' = (H.map (killO g [b])).set b .dead := fun S ρ a w hR => by
 have h1 := (hR.ev hx).1
 have h2 := (hR.ev hy).1
 simp only [AV.den, CV.den] at h1 h2
 rcases hR.hp.blk _ _ hH with ⟨_, _, h⟩ | ⟨B, cs, hB, hh, hcs, hmx, hrl, hrow, hcell⟩
 ·have := congrArg List.length h
  rw [List.length_map, List.length_nil] at this; omega
 rw [hB] at h1
 simp only [Option.map_some, Nat.zero_mul, Nat.zero_add] at h1
 have hl : l.length ≤ cap := by simpa using hrl
 have hsh : w.shape? B = some (e, cs.size) := by unfold World.shape?; rw [hh]
 have hcl : ∀ (j : Nat) (c : UInt8), l[j]? = some c → w.cell? ((⟨B, 0, none⟩ : Addr).add j) = some (.int .u8 c.toNat) := fun j c hj => by
  have h3 := hcell j 0 [.s (.int .u8 c.toNat)] (.s (.int .u8 c.toNat)) (by rw [List.getElem?_map, hj]; rfl) rfl
  have : ((⟨B, 0, none⟩ : Addr).add j) = ⟨B, j, none⟩ := by
   unfold Addr.add; split
   ·rename_i h; subst h; rfl
   ·simp
  rw [this]
  unfold World.cell?
  rw [hh]
  simpa [CV.den] using h3
 have hrun := Lib.run_unsafeString_row (P := P) w t t2 o.type e hp hce B cs.size hsh l (fun e => by rw [e] at h0; simp at h0) (by rw [hcs]; omega) h63 hcl
 unfold effO
 have hex : (execOp a.eval o).run P w = .ok (.value (.string (bst l))) (w.freeze ⟨B, 0, none⟩ l.length) := by
  unfold execOp
  simp only [ho, resolve, invoke, builtin, Sem.run_bind, Sem.run_pure, Result.andThen_ok, List.map_toArray, List.map_cons, List.map_nil, h1, h2, hrun]
 rw [hex]
 have hn0 : ¬ l.length = 0 := by omega
 have hk := R.kill (w' := w.freeze ⟨B, 0, none⟩ l.length) hR hB hH (by unfold World.freeze; rw [if_neg hn0]; simp) (fun k hk => by unfold World.freeze; rw [if_neg hn0]; simp [Array.getElem?_modify, Ne.symm hk]) (by unfold World.freeze; rw [if_neg hn0]) (by unfold World.freeze; rw [if_neg hn0]) (by unfold World.freeze; rw [if_neg hn0]) (by unfold World.freeze; rw [if_neg hn0]) hpin
 refine ⟨S, ρ, _, _, ⟨AV.den ρ H, rfl, rfl⟩, ?_⟩
 rw [hd]
 exact hk.put hN (.c (.s _))
theorem rd_same {f : FuncId} {fn : Func} {tys : Array TypeId} {v : AV} (ho : o.op = .call { callee := .value (.func f), args := #[x], argTypes := tys }) (hx : ev F x = some v)
    (hf : P.funcs[f]? = some fn) (hname : (fn.name == "runtime.NumGoroutine") = false) (hb : fn.body.isNone = true) (hn : Extern.findNext fn = none) (he : Extern.find fn = some Extern.AbiNoEscape.same) : Rd P N E o F H v := fun S ρ a w hR => by
 obtain ⟨h1, h2⟩ := hR.ev hx
 have h3 : a.eval (.func f) = .func (.func f) #[] #[] := rfl
 refine ⟨?_, h2⟩
 have hs : (Extern.AbiNoEscape.same #[v.den ρ H]).run P w = .ok (v.den ρ H) w := rfl
 simp [execOp, ho, resolve, h1, h3, Deferred.ofValue, invoke, run_callFunc_extern hf hname hb hn he, hs]
end
end Go.Proofs.YtfilfijammemfaaGreatDoor
