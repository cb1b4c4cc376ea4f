/- strings.Builder, by value. -/
import Derived.Test.YtfilfijammemfaaGreatDoorQao
import Derived.Test.YtfilfijammemfaaGreatDoorQas
import Derived.Test.YtfilfijammemfaaGreatDoorQar
import Derived.Lib.UnsafeStr
import Derived.Laws.Pointers
import Derived.LaidEqlPtr
import Derived.Laws.LoneSync
set_option linter.unusedSimpArgs false
set_option linter.unusedVariables false
-- NEWM
namespace Go.Proofs.YtfilfijammemfaaGreatDoor
open Go Go.RowKit
set_option maxRecDepth 100000
abbrev oR (l : List Bool) : List (List CV) := l.map fun b => [B b]
abbrev gRow (g : Grd) (v : Value) : List CV := [I g.st, I g.x, I g.y, I g.w, I g.h, .r v (oR g.on)]
abbrev gV (pv v : Value) (g : Grd) : AV := .c (.p pv (gRow g v))
abbrev gB (st x y : Int) (w h b n : Nat) : OB := .box [.c (I st), .c (I x), .c (I y), .c (I w), .c (I h), .o b 0 n n]
abbrev gArr (n : Nat) (on : List Bool) : OB := .arr 4 1 n (oR on)
theorem cvg {g : AV → Value} {m : List (Option Nat)} {H : List OB} {fz : Bool} {st x y : Int} {w h b b' n : Nat} (hb : m[b']? = some (some b)) : CvL g m H fz [.c (I st), .c (I x), .c (I y), .c (I w), .c (I h), .o b 0 n n] [.c (I st), .c (I x), .c (I y), .c (I w), .c (I h), .o b' 0 n n] :=
 .cons (.c rfl) (.cons (.c rfl) (.cons (.c rfl) (.cons (.c rfl) (.cons (.c rfl) (.cons (.o hb rfl) .nil)))))
theorem u8_eq (b c : UInt8) : decide ((b.toNat : Int) = (c.toNat : Int)) = (b == c) := by
 rw [Bool.eq_iff_iff, decide_eq_true_iff, beq_iff_eq]
 constructor
 ·intro h; exact UInt8.toNat.inj (by omega)
 ·intro h; rw [h]
theorem u8_35 (b : UInt8) : decide ((b.toNat : Int) = 35) = (b == 35) := u8_eq b 35
structure GOk (g : Grd) : Prop where
 len : g.on.length = g.w * g.h
 w : g.w ≤ 1000
 h : g.h ≤ 1000
 x : -10000000 ≤ g.x ∧ g.x ≤ 10000000
 y : -10000000 ≤ g.y ∧ g.y ≤ 10000000
theorem GOk.n {g : Grd} (h : GOk g) : g.on.length ≤ 1000000 := by
 rw [h.len]
 exact Nat.le_trans (Nat.mul_le_mul h.w h.h) (by decide)
theorem oR_rep (n : Nat) : oR (List.replicate n false) = List.replicate n [B false] := by simp [oR]
theorem aret_p {fn : Func} {nl q b k j b' : Nat} {F : Fm} {H : List OB} {Qr : AV → List OB → Prop} (m : List (Option Nat)) (H' : (AV → Value) → List OB) (hr : fn.results = #[.tmp q]) (h : F.lookup q = some (.p b k j)) (hb : m[b']? = some (some b)) (hm : (m.filterMap id).Nodup) (hl : ∀ i, i < nl → m[i]? = some (some i)) (hH : ∀ g, CvH g m H true m (H' g)) (hq : ∀ g, Qr (.p b' k j) (H' g)) : ARet Tryz.prog fn nl Qr .ret F H :=
 zq m (fun _ => .p b' k j) H' (by rw [hr]; exact .tmp h .nil) hm hl (fun _ => .p hb) hH hq
theorem aret_fp {fn : Func} {nl q b : Nat} {F : Fm} {H : List OB} {Qr : AV → List OB → Prop} {l : List AV} (m : List (Option Nat)) (row : (AV → Value) → List CV) (H' : List OB) (hr : fn.results = #[.tmp q]) (h : F.lookup q = some (.p b 0 0)) (hH0 : H[b]? = some (.box l)) (hmb : m.contains (some b) = false) (hc : ∀ g, CvL g m H true l ((row g).map .c)) (hm : (m.filterMap id).Nodup) (hl : ∀ i, i < nl → m[i]? = some (some i)) (hH : ∀ g, CvH g m H true m H') (hq : ∀ (v : Value) g, Qr (.c (.p v (row g))) H') : ARet Tryz.prog fn nl Qr .ret F H :=
 zq (us := [.p b 0 0]) m (fun g => .c (.p (g (.p b 0 0)) (row g))) (fun _ => H') (by rw [hr]; exact .tmp h .nil) hm hl (fun g => .frzp rfl hH0 (by have := (hc g).both.1; simpa using this) (fun i x u hx hu => (hc g).both.2 i x (.c u) hx (by rw [List.getElem?_map, hu]; rfl)) hmb) hH (fun g => hq _ g)
theorem zV1 (st x y : Int) (w h : Nat) (hw : w ≤ 1000) (hh : h ≤ 1000) : ACalls Tryz.prog 77 [.c (I st), .c (I x), .c (I y), .c (I w), .c (I h)] [] fun u H => u = .p 0 0 0 ∧ H = [gB st x y w h 1 (w * h), gArr (w * h) (List.replicate (w * h) false)] := by
 have hm : w * h ≤ 1000000 := Nat.le_trans (Nat.mul_le_mul hw hh) (by decide)
 have hmi : (w : Int) * h = (w * h : Nat) := by simp
 have hmb : 0 ≤ (w : Int) * h ∧ (w : Int) * h ≤ 1000000 := by omega
 refine ze (N := 22) Tryz.func77 rfl rfl (by simp) fun E hE => ?_
 refine WA ?_
 refine WA ?_
 exact aret_p [some 1, some 0] (fun _ => [gB st x y w h 1 (w * h), gArr (w * h) (List.replicate (w * h) false)]) rfl rfl rfl (by decide) (ZNK rfl) (fun _ => .box rfl (.cons (.c rfl) (.cons (.c rfl) (.cons (.c rfl) (.cons (.c rfl) (.cons (.c rfl) (.cons (.o rfl rfl) .nil)))))) (.arr rfl (by rw [oR_rep]) .nil)) (fun _ => ⟨rfl, rfl⟩)
theorem at_v (g : Grd) (pv v : Value) (a b : Int) (hg : GOk g) (ha : -100000000 ≤ a ∧ a ≤ 100000000) (hb : -100000000 ≤ b ∧ b ≤ 100000000) : ACalls Tryz.prog 81 [gV pv v g, .c (I a), .c (I b)] [] fun u H => u = .c (B (atG g a b)) ∧ H = [] := by
 obtain ⟨hlen, hw, hh, hx, hy⟩ := hg
 refine ze (N := 57) Tryz.func81 rfl rfl (by simp) fun E hE => ?_
 refine WA ?_
 refine ZZ ?_
 refine zg [(0, none), (1, none), (2, none), (3, none), (4, none), (5, none), (6, none), (7, none), (8, none), (9, none), (10, none), (11, none), (12, none), (13, none)] zn (by kernel_rfl) ?_
 refine WQ ?_
 by_cases c1 : 0 ≤ a - g.x
 ·by_cases c2 : a - g.x < g.w
  ·by_cases c3 : 0 ≤ b - g.y
   ·by_cases c4 : b - g.y < g.h
    ·obtain ⟨i, hi⟩ : ∃ i : Nat, (i : Int) = b - g.y := ⟨(b - g.y).toNat, by omega⟩
     obtain ⟨k, hk⟩ : ∃ k : Nat, (k : Int) = a - g.x := ⟨(a - g.x).toNat, by omega⟩
     have hlt : i * g.w + k < g.on.length := by
      rw [hlen]
      have : i + 1 ≤ g.h := by omega
      have h2 := Nat.mul_le_mul_right g.w this
      rw [Nat.succ_mul, Nat.mul_comm g.h] at h2
      omega
     have hv : atG g a b = g.on[i * g.w + k] := by
      unfold atG
      rw [decide_eq_true c1, decide_eq_true c2, decide_eq_true c3, decide_eq_true c4, show (b - g.y).toNat = i by omega, show (a - g.x).toNat = k by omega, List.getD_eq_getElem?_getD, List.getElem?_eq_getElem hlt]
      rfl
     have hrow : (oR g.on)[i * g.w + k]? = some [B g.on[i * g.w + k]] := by rw [List.getElem?_map, List.getElem?_eq_getElem hlt]; rfl
     have hpe : (b - g.y) * (g.w : Int) = (i * g.w : Nat) := by rw [← hi]; simp
     have hpb : i * g.w ≤ 1000000 := Nat.le_trans (Nat.mul_le_mul (show i ≤ 1000 by omega) hw) (by decide)
     rw [hv]
     refine ZZ ?_
     refine zg [(0, none), (1, none), (2, none), (3, none), (4, none), (5, none), (6, none), (7, none), (8, none), (9, none), (10, none), (11, none), (12, none), (13, none), (14, none), (15, none), (16, none), (17, none), (18, none), (19, none), (20, none), (21, none), (22, none), (23, none), (24, none), (25, none), (26, none), (27, none), (28, none), (29, none), (30, none), (31, none), (32, none), (33, none), (34, none), (35, none), (36, none), (37, none), (38, none)] zn (by kernel_rfl) ?_
     refine WQ ?_
     exact zi [] _ rfl rfl rfl (by decide) (ZNK rfl) (fun _ => .nil) ⟨rfl, rfl⟩
    ·have hv : atG g a b = false := by unfold atG; rw [decide_eq_false c4]; simp
     rw [hv]
     refine ZZ ?_
     refine zg [(0, none), (1, none), (2, none), (3, none), (4, none), (5, none), (6, none), (7, none), (8, none), (9, none), (10, none), (11, none), (12, none), (13, none), (14, none), (15, none), (16, none), (17, none), (18, none), (19, none), (20, none), (21, none), (22, none), (23, none), (24, none), (25, none), (26, none), (27, none), (28, none), (29, none), (30, none), (31, none), (32, none), (33, none), (34, none), (35, none), (36, none), (37, none), (38, none)] zn (by kernel_rfl) ?_
     refine WQ ?_
     exact zi [] _ rfl rfl rfl (by decide) (ZNK rfl) (fun _ => .nil) ⟨rfl, rfl⟩
   ·have hv : atG g a b = false := by unfold atG; rw [decide_eq_false c3]; simp
    rw [hv]
    refine ZZ ?_
    refine zg [(0, none), (1, none), (2, none), (3, none), (4, none), (5, none), (6, none), (7, none), (8, none), (9, none), (10, none), (11, none), (12, none), (13, none), (14, none), (15, none), (16, none), (17, none), (18, none), (19, none), (20, none), (21, none), (22, none), (23, none), (24, none), (25, none), (26, none), (27, none), (28, none), (29, none), (30, none), (31, none), (32, none), (33, none), (34, none), (35, none), (36, none), (37, none), (38, none)] zn (by kernel_rfl) ?_
    refine WQ ?_
    exact zi [] _ rfl rfl rfl (by decide) (ZNK rfl) (fun _ => .nil) ⟨rfl, rfl⟩
  ·have hv : atG g a b = false := by unfold atG; rw [decide_eq_false c2]; simp
   rw [hv]
   refine ZZ ?_
   refine zg [(0, none), (1, none), (2, none), (3, none), (4, none), (5, none), (6, none), (7, none), (8, none), (9, none), (10, none), (11, none), (12, none), (13, none), (14, none), (15, none), (16, none), (17, none), (18, none), (19, none), (20, none), (21, none), (22, none), (23, none), (24, none), (25, none), (26, none), (27, none), (28, none), (29, none), (30, none), (31, none), (32, none), (33, none), (34, none), (35, none), (36, none), (37, none), (38, none)] zn (by kernel_rfl) ?_
   refine WQ ?_
   exact zi [] _ rfl rfl rfl (by decide) (ZNK rfl) (fun _ => .nil) ⟨rfl, rfl⟩
 ·have hv : atG g a b = false := by unfold atG; rw [decide_eq_false c1]; simp
  rw [hv]
  refine ZZ ?_
  refine zg [(0, none), (1, none), (2, none), (3, none), (4, none), (5, none), (6, none), (7, none), (8, none), (9, none), (10, none), (11, none), (12, none), (13, none), (14, none), (15, none), (16, none), (17, none), (18, none), (19, none), (20, none), (21, none), (22, none), (23, none), (24, none), (25, none), (26, none), (27, none), (28, none), (29, none), (30, none), (31, none), (32, none), (33, none), (34, none), (35, none), (36, none), (37, none), (38, none)] zn (by kernel_rfl) ?_
  refine WQ ?_
  exact zi [] _ rfl rfl rfl (by decide) (ZNK rfl) (fun _ => .nil) ⟨rfl, rfl⟩
end Go.Proofs.YtfilfijammemfaaGreatDoor
-- NEWM
namespace Go.Proofs.YtfilfijammemfaaGreatDoor
open Go Go.RowKit
set_option maxRecDepth 100000
theorem set_v (st x y : Int) (w h : Nat) (on : List Bool) (n : Nat) (a b : Int) (i : Nat) (hn : on.length = n) (hi : (b - y) * (w : Int) + a - x = i) (hin : i < n) (hnb : n ≤ 1000000) (ha : -100000000 ≤ a ∧ a ≤ 100000000) (hb : -100000000 ≤ b ∧ b ≤ 100000000) (hx : -10000000 ≤ x ∧ x ≤ 10000000) (hy : -10000000 ≤ y ∧ y ≤ 10000000) : ACallsX true Tryz.prog 79 [.p 0 0 0, .c (I a), .c (I b)] [gB st x y w h 1 n, gArr n on] fun u H => u = .t [] ∧ H = [gB st x y w h 1 n, gArr n (on.set i true)] := by
 have hrow : (oR on)[i]? = some [B (on[i]'(by omega))] := by rw [List.getElem?_map, List.getElem?_eq_getElem (by omega)]; rfl
 refine zK true (N := 29) Tryz.func79 rfl rfl (by simp) fun E hE hP => ?_
 refine ZZ ?_
 refine zg [(0, none), (1, none), (2, none), (3, none), (4, none), (5, none), (6, none), (7, none), (8, none), (9, none), (10, none), (11, none), (12, none), (13, none), (14, none), (15, none), (16, none), (17, none), (18, none), (19, none), (20, none), (21, none), (22, none), (23, some [])] zn (by kernel_rfl) ?_
 iterate 22 refine WX2 ?_
 refine ZT rfl (zo1 (i := i) rfl (KE (t := 143) rfl) rfl rfl rfl (by omega) (by omega)) ?_
 refine WQ ?_
 exact zF1 [some 0, some 1] (fun _ => [gB st x y w h 1 n, gArr n (on.set i true)]) (.inr rfl) rfl (by decide) (ZNK rfl) (fun _ => .box rfl (.cons (.c rfl) (.cons (.c rfl) (.cons (.c rfl) (.cons (.c rfl) (.cons (.c rfl) (.cons (.o rfl rfl) .nil)))))) (.arr rfl (by simp [oR, List.map_set]) .nil)) (fun _ => ⟨rfl, rfl⟩)
abbrev tR (l : List (List UInt8)) : List (List CV) := l.map fun r => [T r]
abbrev celA (v : Value) (c : Cel) : AV := .a [.c (I c.st), .c (I c.x), .c (I c.y), .c (.r v (tR c.rows))]
abbrev celB (v : Value) (c : Cel) : OB := .box [.c (I c.st), .c (I c.x), .c (I c.y), .c (.r v (tR c.rows))]
def bitK (w : Nat) (rows : List (List UInt8)) (i k : Nat) : List Bool := ((rows.flatten.map (· == 35)).take (i * w + k)) ++ List.replicate (w * rows.length - (i * w + k)) false
theorem bitK_0 (w : Nat) (rows : List (List UInt8)) : bitK w rows 0 0 = List.replicate (w * rows.length) false := by simp [bitK]
theorem bitK_row (w : Nat) (rows : List (List UInt8)) (i : Nat) : bitK w rows i w = bitK w rows (i + 1) 0 := by unfold bitK; rw [Nat.succ_mul, Nat.add_zero]
theorem bitK_len {w : Nat} {rows : List (List UInt8)} (h : ∀ r ∈ rows, r.length = w) {i k : Nat} (hi : i * w + k ≤ w * rows.length) : (bitK w rows i k).length = w * rows.length := by
 unfold bitK
 rw [List.length_append, List.length_take, List.length_map, flat_len h, List.length_replicate]
 omega
theorem bitK_end {w : Nat} {rows : List (List UInt8)} (h : ∀ r ∈ rows, r.length = w) : bitK w rows rows.length 0 = rows.flatten.map (· == 35) := by
 unfold bitK
 rw [Nat.add_zero, Nat.mul_comm, Nat.sub_self, List.take_of_length_le (by rw [List.length_map, flat_len h]; exact Nat.le_refl _)]
 simp
theorem bitK_next {w : Nat} {rows : List (List UInt8)} (h : ∀ r ∈ rows, r.length = w) {i k : Nat} {r : List UInt8} {b : UInt8} (hr : rows[i]? = some r) (hb : r[k]? = some b) : bitK w rows i (k + 1) = (bitK w rows i k).set (i * w + k) (b == 35) := by
 have hi := (List.getElem?_eq_some_iff.1 hr).1
 have hk : k < w := by rw [← h r (List.mem_of_getElem? hr)]; exact (List.getElem?_eq_some_iff.1 hb).1
 have hf := flat_at h hk hi
 rw [hr, Option.getD_some, hb] at hf
 have hfl := flat_len h
 have hlt := (List.getElem?_eq_some_iff.1 hf).1
 unfold bitK
 rw [show i * w + (k + 1) = i * w + k + 1 by omega, List.take_add_one, List.getElem?_map, hf, List.set_append_right _ _ (by rw [List.length_take, List.length_map]; omega), List.length_take, List.length_map, Nat.min_eq_left (by omega), Nat.sub_self]
 rw [show w * rows.length - (i * w + k) = (w * rows.length - (i * w + k + 1)) + 1 by omega, List.replicate_succ]
 simp
theorem row_lt {w : Nat} {rows : List (List UInt8)} {i k : Nat} (hi : i < rows.length) (hk : k < w) : i * w + k < w * rows.length := by
 have h2 := Nat.mul_le_mul_right w (show i + 1 ≤ rows.length by omega)
 rw [Nat.succ_mul, Nat.mul_comm rows.length] at h2
 omega
theorem mul_bd {q s x : Int} (h : q * s = x) (hs : 1 ≤ s) (hx : -2000000 ≤ x ∧ x ≤ 2000000) : -2000000 ≤ q ∧ q ≤ 2000000 := by
 rcases Int.le_total 0 q with h0 | h0
 ·have := Int.mul_le_mul_of_nonneg_left hs h0
  omega
 ·have := Int.mul_le_mul_of_nonpos_left (a := q) h0 hs
  omega
theorem za1 {c : Cel} (h : RCel c) : GOk (zc c) := by
 have h1 := h.w
 have h2 := h.h
 have h3 := h.far
 have h4 := h.at
 have h5 := h.st
 have h6 := mul_bd h4.1 (by omega) h3.1
 have h7 := mul_bd h4.2 (by omega) h3.2
 refine ⟨grdOf_len h, ?_, ?_, ?_, ?_⟩ <;> unfold zc <;> split <;> simp only <;> omega
theorem oR_take (l : List Bool) : ((oR l).drop 0).take l.length = oR l := by rw [List.drop_zero, List.take_of_length_le (by simp)]
set_option maxHeartbeats 2000000 in
theorem gridof_v (v : Value) (c : Cel) (h : RCel c) : ACalls Tryz.prog 44 [celA v c] [] fun u H => ∃ pv ov, u = gV pv ov (zc c) ∧ H = [] := by
 have hst := h.st
 have hh := h.h
 have hw := h.w
 have hfar := h.far
 have hrow := h.row
 have hok := za1 h
 have hbd := mul_bd h.at.1 (by omega) hfar.1
 have hbe := mul_bd h.at.2 (by omega) hfar.2
 have hg : zc c = if c.rows = [] then ⟨c.st, 0, 0, 0, 0, []⟩ else ⟨c.st, c.x.tdiv c.st, c.y.tdiv c.st, wid c.rows, c.rows.length, c.rows.flatten.map (· == 35)⟩ := rfl
 obtain ⟨st, x, y, rows⟩ := c
 simp only at hst hh hw hfar hrow hbd hbe hg
 have e1 : (tR rows).length = rows.length := by simp
 generalize zc ⟨st, x, y, rows⟩ = G at hg hok ⊢
 refine ze (N := 68) Tryz.func44 rfl rfl (by simp) fun E hE => ?_
 refine WA ?_
 refine WA ?_
 refine zl rfl (fun h0 => ?_) (fun h0 => ?_)
 ·have hr : rows = [] := List.eq_nil_of_length_eq_zero (by omega)
  rw [if_pos hr] at hg
  subst hg
  refine WR ?_
  refine zf rfl (za false (fun _ => zV1 st 0 0 0 0 (by omega) (by omega)) rfl .fn rfl (by decide) (by kernel_rfl) rfl (fun _ => C0 rfl) (by simp)) ?_
  rintro _ _ ⟨_, _, _, ⟨rfl, rfl⟩, hF, hH⟩
  (refine NST hF hH ?_; clear hF hH; rintro rfl rfl)
  refine WE ?_
  exact aret_fp [] (fun g => gRow ⟨st, 0, 0, 0, 0, []⟩ (g (.o 2 0 (0 * 0) (0 * 0)))) [] rfl rfl rfl rfl (fun g => .cons (.c rfl) (.cons (.c rfl) (.cons (.c rfl) (.cons (.c rfl) (.cons (.c rfl) (.cons (.frz rfl rfl rfl rfl rfl) .nil)))))) (by decide) (ZNK rfl) (fun _ => .nil) (fun pv g => ⟨pv, _, rfl, rfl⟩)
 have hr : rows ≠ [] := fun e => h0 (by rw [e1, e]; rfl)
 rw [if_neg hr] at hg
 obtain ⟨r0, rs, hrs⟩ : ∃ r0 rs, rows = r0 :: rs := by
  cases rows with
  | nil => exact absurd rfl hr
  | cons r rs => exact ⟨r, rs, rfl⟩
 have hwr : wid rows = r0.length := by rw [hrs]; rfl
 rw [hwr] at hg hw hrow
 have hrow0 : (tR rows)[0]? = some [T r0] := by rw [hrs]; rfl
 have hlen : ∀ r ∈ rows, r.length = r0.length := fun r hr => (hrow r hr).1
 clear hrow hwr hrs
 refine ZZ ?_
 refine zg [(0, none), (1, none), (2, none), (3, none), (4, none), (5, none), (6, none), (7, none), (8, none), (9, none), (10, none), (11, none), (12, none), (13, none), (14, none), (15, none), (16, none), (17, none), (18, none), (19, none), (20, some []), (21, none)] zn (by kernel_rfl) ?_
 refine WP ?_
 refine zY rfl rfl (za false (fun _ => zV1 st (x.tdiv st) (y.tdiv st) r0.length (tR rows).length (by omega) (by omega)) rfl .fn rfl (by decide) (by kernel_rfl) rfl (fun _ => C0 rfl) (by simp)) ?_
 rintro _ _ ⟨_, _, _, ⟨rfl, rfl⟩, hF, hH⟩
 rw [e1] at hH
 (refine NST hF hH ?_; clear hF hH; rintro rfl rfl)
 refine ⟨zm, ?_⟩
 refine WQ ?_
 have hbl := fun i k => bitK_len (w := r0.length) (rows := rows) hlen (i := i) (k := k)
 have hnb : r0.length * rows.length ≤ 1000000 := Nat.le_trans (Nat.mul_le_mul hw hh) (by decide)
 have hgL : (⟨st, x.tdiv st, y.tdiv st, r0.length, rows.length, rows.flatten.map (· == 35)⟩ : Grd) = G := hg.symm
 refine WA ?_
 refine zk (fun m F H => ∃ i : Nat, m + i = rows.length ∧ F = [(3, .p 1 0 0), (36, .c (.r v (tR rows))), (37, .c (I (tR rows).length)), (38, .c (I i))] ∧ H = [celB v ⟨st, x, y, rows⟩, gB st (x.tdiv st) (y.tdiv st) r0.length rows.length 2 (r0.length * rows.length), gArr (r0.length * rows.length) (bitK r0.length rows i 0)]) ?_ ?_
 ·refine zh [some 0, some 1, some 2] (fun _ => [(3, .p 1 0 0), (36, .c (.r v (tR rows))), (37, .c (I (tR rows).length)), (38, .c (I (0 : Nat)))]) (fun _ => [celB v ⟨st, x, y, rows⟩, gB st (x.tdiv st) (y.tdiv st) r0.length rows.length 2 (r0.length * rows.length), gArr (r0.length * rows.length) (bitK r0.length rows 0 0)]) (by decide) (ZNL hE) ZCF (by rw [bitK_0]; exact ZCH) (fun _ => ?_)
  exact ⟨rows.length, 0, by omega, rfl, rfl⟩
 rintro m F H ⟨i, hi, rfl, rfl⟩
 refine WA ?_
 refine zl rfl (fun hlt => ?_) (fun hge => ?_)
 ·obtain ⟨r, hri⟩ : ∃ r, rows[i]? = some r := ⟨_, List.getElem?_eq_getElem (by omega)⟩
  have hrl := hlen r (List.mem_of_getElem? hri)
  have hrowi : (tR rows)[i]? = some [T r] := by rw [List.getElem?_map, hri]; rfl
  have hil : i < rows.length := by omega
  refine WA ?_
  refine WA ?_
  refine zk (fun m2 F H => ∃ k : Nat, m2 + k = r0.length ∧ F = [(3, .p 1 0 0), (4, .c (I i)), (5, .c (T r)), (36, .c (.r v (tR rows))), (37, .c (I (tR rows).length)), (38, .c (I i)), (44, .c (I r.length)), (45, .c (I k))] ∧ H = [celB v ⟨st, x, y, rows⟩, gB st (x.tdiv st) (y.tdiv st) r0.length rows.length 2 (r0.length * rows.length), gArr (r0.length * rows.length) (bitK r0.length rows i k)]) ?_ ?_
  ·refine zh [some 0, some 1, some 2] (fun _ => [(3, .p 1 0 0), (4, .c (I i)), (5, .c (T r)), (36, .c (.r v (tR rows))), (37, .c (I (tR rows).length)), (38, .c (I i)), (44, .c (I r.length)), (45, .c (I (0 : Nat)))]) (fun _ => [celB v ⟨st, x, y, rows⟩, gB st (x.tdiv st) (y.tdiv st) r0.length rows.length 2 (r0.length * rows.length), gArr (r0.length * rows.length) (bitK r0.length rows i 0)]) (by decide) (ZNL hE) ZCF ZCH (fun _ => ?_)
   exact ⟨r0.length, 0, by omega, rfl, rfl⟩
  rintro m2 F H ⟨k, hk, rfl, rfl⟩
  refine WA ?_
  refine zl rfl (fun hlt2 => ?_) (fun hge2 => ?_)
  ·obtain ⟨b, hb⟩ : ∃ b, r[k]? = some b := ⟨_, List.getElem?_eq_getElem (by omega)⟩
   have hjl := row_lt (w := r0.length) (rows := rows) hil (show k < r0.length by omega)
   have hnx := bitK_next hlen hri hb
   have hbk := hbl i k (by omega)
   have hj : ((i : Int) * (r0.length : Int)) + k = (i * r0.length + k : Nat) := by simp
   have hjb : (i : Int) * (r0.length : Int) = (i * r0.length : Nat) := by simp
   have hrw : (oR (bitK r0.length rows i k))[i * r0.length + k]? = some [B ((bitK r0.length rows i k)[i * r0.length + k]'(by omega))] := by rw [List.getElem?_map, List.getElem?_eq_getElem (by omega)]; rfl
   refine WA ?_
   refine ZZ ?_
   refine zg [(0, none), (1, none), (2, none), (3, none), (4, none), (5, none), (6, none), (7, none), (8, none), (9, none), (10, none), (11, none), (12, none), (13, none), (14, none), (15, none), (16, none), (17, some [])] zn (by kernel_rfl) ?_
   iterate 16 refine WX2 ?_
   refine ZT rfl (zo1 (i := i * r0.length + k) rfl (KE (t := 143) rfl) rfl rfl rfl (by omega) (by omega)) ?_
   refine WQ ?_
   refine WA ?_
   refine zh [some 0, some 1, some 2] (fun _ => [(3, .p 1 0 0), (4, .c (I i)), (5, .c (T r)), (36, .c (.r v (tR rows))), (37, .c (I (tR rows).length)), (38, .c (I i)), (44, .c (I r.length)), (45, .c (I (k + 1 : Nat)))]) (fun _ => [celB v ⟨st, x, y, rows⟩, gB st (x.tdiv st) (y.tdiv st) r0.length rows.length 2 (r0.length * rows.length), gArr (r0.length * rows.length) (bitK r0.length rows i (k + 1))]) (by decide) (ZNL hE) ZCF ?_ (fun _ => ?_)
   ·exact fun _ => .box rfl (C0 rfl) (.box rfl (cvg rfl) (.arr rfl (by rw [hnx, u8_35, Nat.zero_add]; simp [List.map_set]) .nil))
   ·exact ⟨m2 - 1, by omega, k + 1, by omega, rfl, rfl⟩
  obtain rfl : k = r0.length := by omega
  rw [bitK_row]
  refine ZZ ?_
  refine WA ?_
  refine zh [some 0, some 1, some 2] (fun _ => [(3, .p 1 0 0), (36, .c (.r v (tR rows))), (37, .c (I (tR rows).length)), (38, .c (I (i + 1 : Nat)))]) (fun _ => [celB v ⟨st, x, y, rows⟩, gB st (x.tdiv st) (y.tdiv st) r0.length rows.length 2 (r0.length * rows.length), gArr (r0.length * rows.length) (bitK r0.length rows (i + 1) 0)]) (by decide) (ZNL hE) ZCF ZCH (fun _ => ?_)
  exact ⟨m - 1, by omega, i + 1, by omega, rfl, rfl⟩
 obtain rfl : i = rows.length := by omega
 rw [bitK_end hlen]
 refine ZZ ?_
 refine WA ?_
 have hfl : (rows.flatten.map (· == 35)).length = r0.length * rows.length := by rw [List.length_map, flat_len hlen]
 rw [hg]
 exact aret_fp [] (fun g => gRow ⟨st, x.tdiv st, y.tdiv st, r0.length, rows.length, rows.flatten.map (· == 35)⟩ (g (.o 2 0 (r0.length * rows.length) (r0.length * rows.length)))) [] rfl rfl rfl rfl (fun g => .cons (.c rfl) (.cons (.c rfl) (.cons (.c rfl) (.cons (.c rfl) (.cons (.c rfl) (.cons (.frz rfl rfl (by rw [← hfl, oR_take]) (by simp only [List.length_map] at hfl ⊢; exact hfl) rfl) .nil)))))) (by decide) (ZNK rfl) (fun _ => .nil) (fun pv g => ⟨pv, _, rfl, rfl⟩)
end Go.Proofs.YtfilfijammemfaaGreatDoor
-- NEWM
namespace Go.Proofs.YtfilfijammemfaaGreatDoor
open Go Go.RowKit
set_option maxRecDepth 100000
section
variable {P : Program} {N : Nat} {E : Env} {F : Fm} {H : List OB} {o : Oper} {S : Nat → Prop} {ρ : List (Option Nat)} {a : Act} {w : World} {t yt : TypeId} {x y : Operand}
theorem ef_alloct {d : Nat} {z : Value} {vs : List Value} (ho : o.op = .alloc t) (hd : o.dst = some d) (hN : d < N) (hz : (P.info? t).bind (·.zero) = some z) (hc : z.cells = vs.toArray) (h1 : vs.all Value.oneCell' = true) :
    Ef P N E o F H fun F' H' => F' = (d, .p H.length 0 0) :: F ∧ H' = H ++ [.boxt t (vs.map fun v => .c (cvOf v))] :=
 ef_of hd hN ⟨rfl, rfl⟩ fun S ρ a w hR => by
  refine ⟨S, ρ ++ [some w.heap.size], w.alloc (.cells z.cells t), ?_, ?_, wf_snoc_p hR.hp _⟩
  ·have hzr : (zeroValue t).run P w = .ok z w := by
    unfold zeroValue typeInfo
    cases hi : P.info? t with
    | none => rw [hi] at hz; cases hz
    | some i =>
     rw [hi] at hz
     simp only [Option.bind_some] at hz
     simp [hi, hz]
   rw [den_snoc_p hR.hp]
   simp [execOp, ho, Instr.alloc, hzr, newVar, newRow]
  ·have he := Ex.snoc (ρ := ρ) (H := H) hR.hp.len (some w.heap.size) (.boxt t (vs.map fun v => .c (cvOf v)))
   refine hR.newO (.cells z.cells t) (.boxt t (vs.map fun v => .c (cvOf v))) ⟨w.heap.size, rfl, ?_, fun x hx => ?_⟩
   ·rw [za2, hc, List.map_map]
    congr 2
    rw [List.map_congr_left (g := id) (fun v _ => by simp [AV.den, cvOf_den]), List.map_id]
   ·obtain ⟨v, hv, rfl⟩ := List.mem_map.1 hx
    exact ⟨.c (cvOf_good _ _ _), by rw [AV.den, cvOf_den]; exact List.all_eq_true.1 h1 v hv⟩
theorem ef_storet {v : AV} {b j n : Nat} {tt : TypeId} {l l' : List AV} (ho : o.op = .store t x y) (hd : o.dst = none) (hx : ev F x = some (.p b 0 j)) (hH : H[b]? = some (.boxt tt l)) (hy : ev F y = some v) (ht : (P.info? t).map (·.size) = some n) (hn : (cellsOf v).length = n)
    (hj : j + n ≤ l.length) (h1 : (cellsOf v).all AV.one = true) (hl : putL l j (cellsOf v) = l') :
    Ef P N E o F H fun F' H' => F' = F ∧ H' = H.set b (.boxt tt l') := fun S ρ a w hR => by
 subst hl
 obtain ⟨g1, _⟩ := hR.ev hx
 obtain ⟨g3, g4⟩ := hR.ev hy
 obtain ⟨hc1, hc2⟩ := zs1 g4 h1
 obtain ⟨B, hB, hh, hb⟩ := hR.hp.blk _ _ hH
 have hz : (sizeOf t).run P w = .ok n w := by
  unfold sizeOf typeInfo
  cases hi : P.info? t with
  | none => rw [hi] at ht; cases ht
  | some i => rw [hi] at ht; simp at ht; simp [hi, ht]
 have hrun := zR (P := P) (off := j) ((cellsOf v).map (AV.den ρ H)) 0 w _ hh (by simp; omega) (fun u hu => by
  obtain ⟨x, hx, rfl⟩ := List.mem_map.1 hu
  exact (hc2 x hx).2)
 rw [Nat.add_zero] at hrun
 unfold effO
 have hex : (execOp a.eval o).run P w = .ok .skip (zr w B (.cells (setAll (l.map (AV.den ρ H)).toArray j ((cellsOf v).map (AV.den ρ H))) tt (0, 0))) := by
  simp only [execOp, ho, g1, g3, AV.den, hB, Option.map_some, Instr.storeAt, Instr.sureAddr, storeVar, Sem.run_bind, Sem.run_pure, Result.andThen_ok, hz, hc1, List.size_toArray, List.length_map, hn, ne_eq, not_true_eq_false, if_false,
   Nat.zero_mul, Nat.zero_add]
  rw [hrun]
  rfl
 rw [hex]
 refine ⟨S, ρ, _, _, ⟨rfl, rfl⟩, ?_⟩
 rw [hd]
 have he := Ex.set (ρ := ρ) (ob' := .boxt tt (putL l j (cellsOf v))) hH rfl rfl (fun _ => rfl)
 refine R.set (ob := .boxt tt l) hR hH hB rfl rfl (fun _ => rfl) (zr1 _ _) ⟨B, rfl, ?_, fun x hx => ?_⟩
 ·rw [zU1 hh]
  congr 2
  refine Array.ext_getElem? fun k => ?_
  rw [zd1 _ _ _ _ (by simp; omega)]
  simp only [List.length_map, List.getElem?_map, List.getElem?_toArray]
  rw [putL_get (by omega)]
  have hden : ∀ x, x ∈ cellsOf v ∨ x ∈ l → x.den ρ (H.set b (.boxt tt (putL l j (cellsOf v)))) = x.den ρ H := fun x hx => by
   rcases hx with hx | hx
   ·exact (hc2 x hx).1.den_ex he
   ·exact (hb x hx).1.den_ex he
  split
  ·cases hq : (cellsOf v)[k - j]? with
   | none => rfl
   | some x => simp only [Option.map_some]; rw [hden x (.inl (List.mem_of_getElem? hq))]
  ·cases hq : l[k]? with
   | none => rfl
   | some x => simp only [Option.map_some]; rw [hden x (.inr (List.mem_of_getElem? hq))]
 ·have hm := mo_put hR.hp hB (.cells (setAll (l.map (AV.den ρ H)).toArray j ((cellsOf v).map (AV.den ρ H))) tt (0, 0))
  rcases mem_putL hx with hx | hx
  ·exact ⟨(hc2 x hx).1.ex he hm, by rw [(hc2 x hx).1.den_ex he]; exact (hc2 x hx).2⟩
  ·exact ⟨(hb x hx).1.ex he hm, by rw [(hb x hx).1.den_ex he]; exact (hb x hx).2⟩
theorem ptr_guard {op : BinOp} {w : World} {p q : Option Addr} : (eqGuard op t x y (.pointer p) (.pointer q)).run P w = .ok () w := by unfold eqGuard; split <;> rfl
theorem ptr_same {te : TypeId} {n : Nat} {w : World} (a : Addr) (hp : P.underlying t = some (.pointer te)) (hs : (P.info? te).map (·.size) = some (n + 1)) : (binOp .neq t (.pointer (some a)) (.pointer (some a))).run P w = .ok (.bool false) w := by
 obtain ⟨j, hj, _⟩ := Option.map_eq_some_iff.1 hs
 have h : ∀ d : Nat, (Op.equalIn (d + 1) t (.pointer (some a)) (.pointer (some a))).run P w = .ok true w := fun d => by
  simp [Op.equalIn, st_under hp, sizeOf, typeInfo, hj, run_sameAddr_same]
 simp only [binOp]
 simp [Op.equal, Op.maxDepth, h 9999]
theorem rd_pnil (ho : o.op = .binOp .eql t x (.const (.pointer none)) yt) (ht : P.underlying t = some (.pointer (P.pointee t))) (hx : ev F x = some (.c (.s (.pointer none)))) : Rd P N E o F H (.c (.s (.bool true))) :=
 zX1 ho hx rfl (fun _ _ => rfl) (fun _ _ => rfl) fun w => by
  rw [Sem.run_bind]
  refine Eq.trans (congrArg (fun r => Result.andThen r _) ptr_guard) ?_
  exact run_eql_pointer_nil w t none ht
theorem rd_pnot {b k j : Nat} (ho : o.op = .binOp .eql t x (.const (.pointer none)) yt) (ht : P.underlying t = some (.pointer (P.pointee t))) (hx : ev F x = some (.p b k j)) : Rd P N E o F H (.c (.s (.bool false))) := fun S ρ a w hR => by
 obtain ⟨h1, h2⟩ := hR.ev hx
 cases h2 with
 | p h0 h =>
  obtain ⟨B, hB⟩ := Option.isSome_iff_exists.1 h
  rw [AV.den, hB, Option.map_some] at h1
  refine ⟨?_, .c (.s _)⟩
  have h3 : a.eval (.const (.pointer none)) = .pointer none := rfl
  simp only [execOp, ho, h1, h3]
  rw [Sem.run_bind, Sem.run_bind, ptr_guard, Result.andThen_ok, run_eql_pointer_nil w t _ ht]
  rfl
theorem rd_psame {e : TypeId} {n : Nat} {b k j : Nat} (ho : o.op = .binOp .neq t x y yt) (ht : P.underlying t = some (.pointer e)) (hs : (P.info? e).map (·.size) = some (n + 1)) (hx : ev F x = some (.p b k j)) (hy : ev F y = some (.p b k j)) : Rd P N E o F H (.c (.s (.bool false))) := fun S ρ a w hR => by
 obtain ⟨h1, h2⟩ := hR.ev hx
 have h1' := (hR.ev hy).1
 cases h2 with
 | p h0 h =>
  obtain ⟨B, hB⟩ := Option.isSome_iff_exists.1 h
  rw [AV.den, hB, Option.map_some] at h1 h1'
  refine ⟨?_, .c (.s _)⟩
  simp only [execOp, ho, h1, h1']
  rw [Sem.run_bind, Sem.run_bind, ptr_guard, Result.andThen_ok, ptr_same _ ht hs]
  rfl
theorem rd_tounsafe {src dst e : TypeId} {b j : Nat} {tt : TypeId} {l : List AV} (ho : o.op = .convert src dst x) (hs : P.underlying src = some (.pointer e)) (hd : P.underlying dst = some .unsafePointer) (hsz : (P.info? e).map (fun i => decide (i.size = 0)) = some false) (hx : ev F x = some (.p b 0 j)) (hH : H[b]? = some (.boxt tt l)) (hj : j < l.length) : Rd P N E o F H (.p b 0 j) := fun S ρ a w hR => by
 obtain ⟨h1, h2⟩ := hR.ev hx
 obtain ⟨B, hB, hh, _⟩ := hR.hp.blk _ _ hH
 have hs0 : szAt H b = 0 := by unfold szAt; rw [hH]; rfl
 rw [AV.den, hB, hs0] at h1
 have hc : w.cell? ⟨B, j, none⟩ = some ((l[j]'hj).den ρ H) := by
  unfold World.cell?; rw [hh]; simp [hj]
 have := run_convert_to_unsafe (P := P) hs hd hsz hc
 refine ⟨?_, h2⟩
 simp only [Option.map_some, Nat.zero_mul, Nat.zero_add] at h1
 simp [execOp, ho, h1, this, AV.den, hB, hs0]
theorem rd_fromunsafe {src dst : TypeId} {b : Nat} {tt : TypeId} {l : List AV} (ho : o.op = .convert src dst x) (hs : P.underlying src = some .unsafePointer) (hd : P.underlying dst = some (.pointer tt)) (hsi : (P.info? tt).map (·.size) = some l.length) (hl0 : 0 < l.length) (hlie : liesAt P P.depth tt 1 0 tt 1 = true) (hx : ev F x = some (.p b 0 0)) (hH : H[b]? = some (.boxt tt l)) : Rd P N E o F H (.p b 0 0) := fun S ρ a w hR => by
 obtain ⟨h1, h2⟩ := hR.ev hx
 obtain ⟨i, hi, hsz⟩ := Option.map_eq_some_iff.1 hsi
 obtain ⟨B, hB, hh, _⟩ := hR.hp.blk _ _ hH
 have hs0 : szAt H b = 0 := by unfold szAt; rw [hH]; rfl
 rw [AV.den, hB, hs0] at h1
 simp only [Option.map_some, Nat.zero_mul, Nat.zero_add] at h1
 have hsh : w.shape? B = some (tt, l.length) := by unfold World.shape?; rw [hh]; simp
 refine ⟨?_, h2⟩
 have hco : P.cellsOf tt = l.length := by unfold Program.cellsOf; rw [hi]; simpa using hsz
 have hvar : (variablesAt ⟨B, 0, none⟩ tt 1).run P w = .ok true w := by
  unfold variablesAt
  simp [hsh, hco, Nat.div_self hl0, hlie]
 simp [execOp, ho, h1, convert, st_under hs, st_under hd, Conv.unsafePointer, Conv.seenAt, viewAt, hsh, sizeOf, typeInfo, hi, hsz, hvar, AV.den, hB, hs0]
end
end Go.Proofs.YtfilfijammemfaaGreatDoor
