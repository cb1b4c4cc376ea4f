/- Notes are written as a text (record.Text), by value. -/
import Derived.Test.YtlhbfcfjepbhpaaGreatDoorQbj
import Derived.Test.YtlhbfcfjepbhpaaGreatDoorQbd
import Derived.Test.YtlhbfcfjepbhpaaGreatDoorQbh
import Derived.Test.YtlhbfcfjepbhpaaGreatDoorQba
set_option linter.unusedSimpArgs false
set_option linter.unusedVariables false
-- NEWM
namespace Go.Proofs.YtlhbfcfjepbhpaaGreatDoor
open Go Go.RowKit
set_option maxRecDepth 100000
abbrev uR (l : List UInt8) : List (List CV) := l.map fun c => [.s (.int .u8 c.toNat)]
abbrev bldB (A : AV) (b n c : Nat) : OB := .boxt 88 [A, .o b 0 n c]
abbrev bldA (c : Nat) (l : List UInt8) : OB := .arr 5 1 c (uR l)
abbrev pnil : AV := .c (.s (.pointer none))
theorem copycheck_v (A : AV) (n c : Nat) (l : List UInt8) (hA : A = pnil ∨ A = .p 0 0 0) : ACallsX true Tryz.prog 107 [.p 0 0 0] [bldB A 1 n c, bldA c l] fun u H => u = .t [] ∧ H = [bldB (.p 0 0 0) 1 n c, bldA c l] := by
 refine za1 true (N := 20) Tryz.func107 rfl rfl (by simp) fun E hE hP => ?_
 rcases hA with rfl | rfl
 ·refine ZR ?_
  iterate 4 refine WX1 ?_
  refine ZA (rd_pnil rfl (by kernel_rfl) rfl) ?_
  refine WE ?_
  refine zb rfl ?_
  refine ZR ?_
  iterate 2 refine WX1 ?_
  refine ZA (rd_tounsafe rfl Tryz.underlying85 Tryz.underlying240 (by kernel_rfl) rfl rfl (by simp)) ?_
  refine ZA (rd_same rfl rfl rfl rfl rfl rfl rfl) ?_
  refine ZA (rd_fromunsafe rfl Tryz.underlying240 Tryz.underlying85 (by kernel_rfl) (by simp) (by kernel_rfl) rfl rfl) ?_
  iterate 2 refine WX1 ?_
  refine zf rfl (ef_storet rfl rfl rfl rfl rfl (KS (t := 85) rfl) rfl (by simp) rfl rfl) ?_
  rintro _ _ ⟨rfl, rfl⟩
  refine WE ?_
  exact aret_0 [some 0, some 1] (fun _ => [bldB (.p 0 0 0) 1 n c, bldA c l]) (.inr rfl) rfl (by decide) (ZNK rfl) ZCH (fun _ => ⟨rfl, rfl⟩)
 ·refine ZR ?_
  iterate 4 refine WX1 ?_
  refine ZA (rd_pnot rfl (by kernel_rfl) rfl) ?_
  refine WE ?_
  refine za rfl ?_
  refine ZZ ?_
  refine ZR ?_
  iterate 5 refine WX1 ?_
  refine ZA (rd_psame (n := 1) rfl Tryz.underlying85 (by kernel_rfl) rfl rfl) ?_
  refine WE ?_
  refine za rfl ?_
  refine ZZ ?_
  exact aret_0 [some 0, some 1] (fun _ => [bldB (.p 0 0 0) 1 n c, bldA c l]) (.inr rfl) rfl (by decide) (ZNK rfl) ZCH (fun _ => ⟨rfl, rfl⟩)
theorem bstring_v (A : AV) (c : Nat) (l : List UInt8) (h0 : 0 < l.length) (hl : l.length ≤ 1000000) (hc : l.length ≤ c) (hA : A = .p 0 0 0) : ACalls Tryz.prog 56 [.p 0 0 0] [bldB A 1 l.length c, bldA c l] fun u H => u = .c (T l) ∧ ∃ z, H = [.boxt 88 [.p 0 0 0, z], .dead] := by
 subst hA
 refine za1 false (N := 14) Tryz.func56 rfl rfl (by simp) fun E hE hP => ?_
 refine WA ?_
 refine ZZ ?_
 refine zk [(0, none), (1, none), (2, none), (3, none), (4, none), (5, none), (6, none), (7, none), (8, none), (9, none), (10, some []), (11, none)] zS (by kernel_rfl) ?_
 iterate 4 refine WX2 ?_
 refine ZT rfl (rd_sldata rfl rfl (by omega) (by omega)) ?_
 iterate 5 refine WX2 ?_
 refine zi2 rfl rfl (ef_ustr (l := l) rfl rfl (by decide) Tryz.underlying185 (by kernel_rfl) rfl rfl rfl (by omega) (by omega) hP) ?_
 rintro _ _ ⟨_, rfl, rfl⟩
 refine ⟨zm, ?_⟩
 refine WQ ?_
 exact zh [some 0, some 1] [.boxt 88 [.p 0 0 0, .c (.s _)], .dead] rfl rfl rfl (by decide) (ZNK rfl) (fun _ => .oth rfl (.boxt (.cons (.p rfl) (.cons (.c rfl) .nil))) (.oth rfl .dead .nil)) ⟨rfl, _, rfl⟩
end Go.Proofs.YtlhbfcfjepbhpaaGreatDoor
namespace Go.Proofs.YtlhbfcfjepbhpaaGreatDoor
open Go Go.RowKit
theorem chkA_pw : ∀ (l : List Nt) (p : Option Nt), chkA p l = 0 ↔ (∀ x ∈ l, ntF x = 0) ∧ l.Pairwise (fun x y => cmpNt x y < 0) ∧ ∀ z, p = some z → ∀ x ∈ l, cmpNt z x < 0
 | [], p => by rw [chkA_nil]; simp
 | x :: l, p => by
  have ih := chkA_pw l (some x)
  rw [chkA_cons]
  by_cases h1 : ntF x = 0
  ·rw [if_neg (by simpa using h1)]
   by_cases h2 : badO p x = true
   ·rw [if_pos h2]
    refine ⟨fun h => (by cases h), fun ⟨_, _, h3⟩ => ?_⟩
    cases p with
    | none => cases h2
    | some z =>
     have h4 : decide (0 ≤ cmpNt z x) = true := h2
     have h5 := of_decide_eq_true h4
     have := h3 z rfl x List.mem_cons_self
     omega
   ·rw [if_neg h2, ih]
    constructor
    ·rintro ⟨h3, h4, h5⟩
     have h6 := h5 x rfl
     refine ⟨fun y hy => ?_, List.pairwise_cons.2 ⟨h6, h4⟩, fun z hz y hy => ?_⟩
     ·rcases List.mem_cons.1 hy with rfl | hy
      ·exact h1
      ·exact h3 y hy
     ·subst hz
      have h7 : cmpNt z x < 0 := by
       have h8 : ¬ decide (0 ≤ cmpNt z x) = true := h2
       simp at h8
       exact h8
      rcases List.mem_cons.1 hy with rfl | hy
      ·exact h7
      ·exact cmpNt_trans h7 (h6 y hy)
    ·rintro ⟨h3, h4, h5⟩
     obtain ⟨h6, h7⟩ := List.pairwise_cons.1 h4
     exact ⟨fun y hy => h3 y (List.mem_cons_of_mem _ hy), h7, fun z hz y hy => by injection hz with hz; subst hz; exact h6 y hy⟩
  ·rw [if_pos h1]
   exact ⟨fun h => absurd h h1, fun ⟨h3, _⟩ => absurd (h3 x List.mem_cons_self) h1⟩
theorem chkN_pw {l : List Nt} : chkN l = 0 ↔ l.length ≤ 2000 ∧ (∀ x ∈ l, ntF x = 0) ∧ l.Pairwise (fun x y => cmpNt x y < 0) ∧ (l.map ky).Nodup := by
 unfold chkN
 by_cases h1 : 2000 < l.length
 ·rw [if_pos h1]; exact ⟨fun h => (by cases h), fun ⟨h, _⟩ => by omega⟩
 rw [if_neg h1]
 have h2 := chkA_pw l none
 by_cases h3 : chkA none l = 0
 ·rw [if_neg (by simpa using h3)]
  obtain ⟨h4, h5, _⟩ := h2.1 h3
  by_cases h6 : (l.map ky).Nodup
  ·rw [if_pos h6]; exact ⟨fun _ => ⟨by omega, h4, h5, h6⟩, fun _ => rfl⟩
  ·rw [if_neg h6]; exact ⟨fun h => (by cases h), fun ⟨_, _, _, h⟩ => absurd h h6⟩
 ·rw [if_pos h3]
  exact ⟨fun h => absurd h h3, fun ⟨_, h4, h5, _⟩ => absurd (h2.2 ⟨h4, h5, fun z hz => (by cases hz)⟩) h3⟩
end Go.Proofs.YtlhbfcfjepbhpaaGreatDoor
-- NEWM
namespace Go.Proofs.YtlhbfcfjepbhpaaGreatDoor
open Go Go.RowKit
set_option maxRecDepth 1000000
theorem info_u8 : ∃ i : TypeInfo, Tryz.prog.info? 5 = some i ∧ i.zero = some (.int .u8 0) ∧ i.size = 1 ∧ i.bytes = 1 := by
 have h : (Tryz.prog.info? 5).map (fun i => (i.zero, i.size, i.bytes)) = some (some (.int .u8 0), 1, 1) := by kernel_rfl
 obtain ⟨i, hi, he⟩ := Option.map_eq_some_iff.1 h
 simp only [Prod.mk.injEq] at he
 exact ⟨i, hi, he.1, he.2.1, he.2.2⟩
theorem rd_ustr0z {P : Program} {N : Nat} {E : Env} {F : Fm} {H : List OB} {o : Oper} {x y : Operand} {t t2 : TypeId} {z : Int} (hz : z = 0) (ho : o.op = .call { callee := .builtin .unsafeString, args := #[x, y], argTypes := #[t, t2] }) (hx : ev F x = some (.c (.s (.pointer none)))) (hy : ev F y = some (.c (.s (.int .i64 z)))) : Rd P N E o F H (.c (T [])) := by
 subst hz
 exact rd_ustr0 ho hx hy
theorem writestr_v (A : AV) (c : Nat) (l s : List UInt8) (hA : A = pnil ∨ A = .p 0 0 0) (hl : l.length ≤ 1000000) (hs : s.length ≤ 1000000) : ACalls Tryz.prog 53 [.p 0 0 0, .c (T s)] [bldB A 1 l.length c, bldA c l] fun u H => ∃ c', u = .t [.c (I s.length), .c (.s .nilIface)] ∧ H = [bldB (.p 0 0 0) 1 (l ++ s).length c', bldA c' (l ++ s)] ∧ (l ++ s).length ≤ c' := by
 have eu : (uR l).length = l.length := by simp
 have hcv : ∀ g : AV → Value, CvH g [some 0, some 1] [bldB A 1 l.length c, bldA c l] false [some 0, some 1] [bldB A 1 l.length c, bldA c l] := fun g => by
  rcases hA with rfl | rfl
  ·exact .oth rfl (.boxt (.cons (.c rfl) (.cons (.o rfl rfl) .nil))) (.arr rfl rfl .nil)
  ·exact .oth rfl (.boxt (.cons (.p rfl) (.cons (.o rfl rfl) .nil))) (.arr rfl rfl .nil)
 refine za1 false (N := 19) Tryz.func53 rfl rfl (by simp) fun E hE hP => ?_
 refine WA ?_
 refine WR ?_
 refine zf rfl (zb2 [0, 1] (fun _ => [bldB A 1 l.length c, bldA c l]) false (fun _ => copycheck_v A l.length c l hA) rfl .fn rfl (by decide) (by kernel_rfl) rfl (fun _ => .cons (.p rfl) .nil) (by decide) hcv (by simp)) ?_
 rintro F1 H1 ⟨_, _, _, _, ⟨rfl, rfl⟩, hF, hH⟩
 rw [zf1] at hF; (refine NSU hF hH ?_; clear hF hH; rintro rfl rfl)
 refine WE ?_
 refine WR ?_
 refine zf rfl (ef_apps (b := 1) (n := l.length) (cap := c) (l := s) (rows := uR l) (e := 5) rfl rfl (by decide) Tryz.underlying86 Tryz.underlying9 info_u8 rfl rfl (by simp) rfl (by omega)) ?_
 rintro F1 H1 ⟨gq, cc, hcc, hF, hH⟩
 rw [List.take_of_length_le (show (uR l).length ≤ l.length by simp)] at hH
 (refine NSU hF hH ?_; clear hF hH; rintro rfl rfl)
 iterate 2 refine WX1 ?_
 refine zf rfl (ef_storet rfl rfl rfl rfl rfl (KS (t := 86) rfl) rfl (by simp) rfl rfl) ?_
 rintro _ _ ⟨rfl, rfl⟩
 refine WE ?_
 refine WA ?_
 exact zu (us := [.c (I s.length), .c (.s .nilIface)]) [some 0, some 1] (fun _ => .t [.c (I s.length), .c (.s .nilIface)]) (fun _ => [bldB (.p 0 0 0) 1 (l ++ s).length cc, bldA cc (l ++ s)]) (.tmp rfl (.tmp rfl .nil)) (by decide) (ZNK rfl) (fun _ => .tL (.cons (.c rfl) (.cons (.c rfl) .nil))) (fun _ => .oth rfl (.boxt (.cons (.p rfl) (.cons (.o rfl (by simp)) .nil))) (.arr rfl (by simp [uR]) .nil)) (fun _ => ⟨cc, rfl, rfl, by simp at *; omega⟩)
theorem blen_v (A : AV) (c : Nat) (l : List UInt8) (hA : A = pnil ∨ A = .p 0 0 0) : ACallsX true Tryz.prog 55 [.p 0 0 0] [bldB A 1 l.length c, bldA c l] fun u H => u = .c (I l.length) ∧ H = [bldB A 1 l.length c, bldA c l] := by
 refine za1 true (N := 8) Tryz.func55 rfl rfl (by simp) fun E hE hP => ?_
 rcases hA with rfl | rfl
 ·repeat' (first
   | (with_reducible refine zC ?_) | (with_reducible refine zA ?_) | (with_reducible refine zE ?_) | (with_reducible refine zI ?_) | (with_reducible refine zG ?_) | (with_reducible refine zJ ?_) | (with_reducible refine zH rfl ?_) | (with_reducible refine zF ?_) | (with_reducible refine zq ?_) | (with_reducible refine zj ?_) | (with_reducible refine zD ?_) | (with_reducible refine zt ?_)
   | refine zb rfl ?_ | refine za rfl ?_ | refine zr rfl (by assumption) ?_ | refine zo rfl (by assumption) ?_ | refine zw rfl (fun _ => ?_) (fun _ => ?_) | refine zn rfl (fun _ => ?_) (fun _ => ?_)
   | (refine zd ?_; refine WE ?_))
  exact zh [some 0, some 1] [bldB pnil 1 l.length c, bldA c l] rfl rfl rfl (by decide) (ZNK rfl) ZCH ⟨rfl, rfl⟩
 ·repeat' (first
   | (with_reducible refine zC ?_) | (with_reducible refine zA ?_) | (with_reducible refine zE ?_) | (with_reducible refine zI ?_) | (with_reducible refine zG ?_) | (with_reducible refine zJ ?_) | (with_reducible refine zH rfl ?_) | (with_reducible refine zF ?_) | (with_reducible refine zq ?_) | (with_reducible refine zj ?_) | (with_reducible refine zD ?_) | (with_reducible refine zt ?_)
   | refine zb rfl ?_ | refine za rfl ?_ | refine zr rfl (by assumption) ?_ | refine zo rfl (by assumption) ?_ | refine zw rfl (fun _ => ?_) (fun _ => ?_) | refine zn rfl (fun _ => ?_) (fun _ => ?_)
   | (refine zd ?_; refine WE ?_))
  exact zh [some 0, some 1] [bldB (.p 0 0 0) 1 l.length c, bldA c l] rfl rfl rfl (by decide) (ZNK rfl) ZCH ⟨rfl, rfl⟩
abbrev bld0 : OB := .boxt 88 [pnil, .c (.r (.slice none 0 0) [])]
theorem blen0_v : ACallsX true Tryz.prog 55 [.p 0 0 0] [bld0] fun u H => u = .c (I 0) ∧ H = [bld0] := by
 refine za1 true (N := 8) Tryz.func55 rfl rfl (by simp) fun E hE hP => ?_
 repeat' (first
  | (with_reducible refine zC ?_) | (with_reducible refine zA ?_) | (with_reducible refine zE ?_) | (with_reducible refine zI ?_) | (with_reducible refine zG ?_) | (with_reducible refine zJ ?_) | (with_reducible refine zH rfl ?_) | (with_reducible refine zF ?_) | (with_reducible refine zq ?_) | (with_reducible refine zj ?_) | (with_reducible refine zD ?_) | (with_reducible refine zt ?_)
  | refine zb rfl ?_ | refine za rfl ?_ | refine zr rfl (by assumption) ?_ | refine zo rfl (by assumption) ?_ | refine zw rfl (fun _ => ?_) (fun _ => ?_) | refine zn rfl (fun _ => ?_) (fun _ => ?_)
  | (refine zd ?_; refine WE ?_))
 exact zh [some 0] [bld0] rfl rfl rfl (by decide) (ZNK rfl) ZCH ⟨rfl, rfl⟩
theorem ef_rdX {P : Program} {N : Nat} {E : Env} {F : Fm} {H : List OB} {o : Oper} {d : Nat} {x : AV} (hd : o.dst = some d) (hN : d < N) (hr : Rd P N E o F H x) : Ef P N E o F H fun F' H' => F' = (d, x) :: F ∧ H' = H := fun S ρ a w hR => by
 obtain ⟨h1, h2⟩ := hr S ρ a w hR
 unfold effO
 rw [h1]
 refine ⟨S, ρ, _, _, ⟨rfl, rfl⟩, ?_⟩
 rw [hd]
 exact hR.put hN h2
theorem bstr0_v : ACallsX true Tryz.prog 56 [.p 0 0 0] [bld0] fun u H => u = .c (T []) ∧ H = [bld0] := by
 refine za1 true (N := 14) Tryz.func56 rfl rfl (by simp) fun E hE hP => ?_
 refine WA ?_
 refine ZZ ?_
 refine zk [(0, none), (1, none), (2, none), (3, none), (4, none), (5, none), (6, none), (7, none), (8, none), (9, none), (10, some []), (11, none)] zS (by kernel_rfl) ?_
 iterate 4 refine WX2 ?_
 refine ZT rfl (rd_sldatan rfl rfl) ?_
 iterate 5 refine WX2 ?_
 refine zi2 rfl rfl (ef_rdX rfl (by decide) (rd_ustr0z (z := (([] : List (List CV)).length : Int)) rfl rfl rfl rfl)) ?_
 rintro _ _ ⟨rfl, rfl⟩
 refine ⟨zm, ?_⟩
 refine WQ ?_
 exact zh [some 0] [bld0] rfl rfl rfl (by decide) (ZNK rfl) ZCH ⟨rfl, rfl⟩
set_option maxHeartbeats 1000000 in
theorem notetext_v (x : Nt) (h : ntF x = 0) : ACallsW TabX false Tryz.prog 54 [noA x] [] fun u H => u = .c (T (jnF (txW x))) ∧ H = [] := by
 obtain ⟨h1, h2, h3, h4, -⟩ := zf3 h
 obtain ⟨w1, w2⟩ := tx_words h
 have hjl : (Lib.join (txW x) [32]).length ≤ 1000000 := by
  have := tx_len h
  unfold jnF at this
  rw [List.length_append] at this
  omega
 obtain ⟨-, -, -, -, -, -, -, u1, u2, -⟩ := zf3 h
 have u3 : uM x.kd ≤ 100000000 := by unfold uM; split <;> (try split) <;> omega
 have htx : txW x = ([x.st, Lib.itoa x.no, Lib.itoa x.at_, kwA x.kd] ++ [x.pr, x.jb, x.sp].filter (fun s => decide (s ≠ []))) ++ (if 0 < uM x.kd then [Lib.itoa x.n] else []) ++ (if uU x.kd = true then [x.of_, Lib.itoa x.ot] else []) := rfl
 generalize txW x = tw at htx hjl w1 w2 ⊢
 obtain ⟨st, no, a_, kn, pr, jb, sp, n, of_, ot⟩ := x
 simp only at h2 h3 h4 u1 u2 u3 htx
 obtain ⟨kw, hkw⟩ : ∃ kw, kwA kn = kw := ⟨_, rfl⟩
 have hrk : (wR kwL)[kn.toNat]? = some [T kw] := by
  rw [← hkw]
  rcases (show kn = 1 ∨ kn = 2 ∨ kn = 3 ∨ kn = 4 ∨ kn = 5 ∨ kn = 6 ∨ kn = 7 by omega) with rfl | rfl | rfl | rfl | rfl | rfl | rfl <;> rfl
 rw [hkw] at htx
 show ACallsW _ _ _ _ [.a [.c (T st), .c (I no), .c (I a_), .c (I kn), .c (T pr), .c (T jb), .c (T sp), .c (I n), .c (T of_), .c (I ot)]] [] _
 refine zD1 zk2 false (N := 64) Tryz.func54 rfl rfl (by simp) fun E hE hP hX => ?_
 refine WA ?_
 refine ZZ ?_
 refine zk [(0, none), (1, none), (2, none), (3, none), (5, none), (6, none), (9, none), (10, none), (4, some [0, 1, 5, 6, 9, 10]), (7, some [0, 1, 9, 10]), (8, some [0, 1, 9, 10]), (11, none), (12, none), (13, some []), (14, none)] zS (by kernel_rfl) ?_
 refine WP ?_
 refine zi2 rfl rfl (zQ TabX (hX _ _) false (fun _ => zZ3 no (by omega) (by omega)) rfl .fn rfl (by decide) (by kernel_rfl) rfl (fun _ => C0 rfl) (by simp)) ?_
 rintro _ _ ⟨_, _, _, ⟨rfl, rfl⟩, hF, hH⟩
 (refine NST hF hH ?_; clear hF hH; rintro rfl rfl)
 refine ⟨ze (by first | exact zz rfl rfl rfl (ZX (KF (t := 39) (f := 0) rfl rfl)) rfl) (ze (by first | exact zz rfl rfl rfl (ZL (KK (t := 9) rfl)) rfl) (ze (by first | exact zz rfl rfl rfl (ZX (KF (t := 39) (f := 2) rfl rfl)) rfl) (ze (by first | exact zz rfl rfl rfl (ZL (KK (t := 3) rfl)) rfl) (ze (by first | exact zz rfl rfl rfl (ZX (KF (t := 39) (f := 3) rfl rfl)) rfl) (ze (by first | exact zz rfl rfl rfl (ZL (KK (t := 3) rfl)) rfl) (zm)))))), ?_⟩
 refine zi2 rfl rfl (zQ TabX (hX _ _) false (fun _ => zZ3 a_ (by omega) (by omega)) rfl .fn rfl (by decide) (by kernel_rfl) rfl (fun _ => C0 rfl) (by simp)) ?_
 rintro _ _ ⟨_, _, _, ⟨rfl, rfl⟩, hF, hH⟩
 (refine NST hF hH ?_; clear hF hH; rintro rfl rfl)
 refine ⟨ze (by first | exact zz rfl rfl rfl (ZX (KF (t := 39) (f := 0) rfl rfl)) rfl) (ze (by first | exact zz rfl rfl rfl (ZL (KK (t := 9) rfl)) rfl) (ze (by first | exact zz rfl rfl rfl (ZX (KF (t := 39) (f := 3) rfl rfl)) rfl) (ze (by first | exact zz rfl rfl rfl (ZL (KK (t := 3) rfl)) rfl) (zm)))), ?_⟩
 refine zi2 rfl rfl (zc false (fun _ => kindwords_v) rfl .fn rfl (by decide) (by kernel_rfl) rfl (fun _ => C0 rfl) (by simp)) ?_
 rintro _ _ ⟨_, _, _, ⟨⟨vk, rfl⟩, rfl⟩, hF, hH⟩
 (refine NST hF hH ?_; clear hF hH; rintro rfl rfl)
 refine ⟨ze (by first | exact zz rfl rfl rfl (ZX (KF (t := 39) (f := 0) rfl rfl)) rfl) (ze (by first | exact zz rfl rfl rfl (ZL (KK (t := 9) rfl)) rfl) (ze (by first | exact zz rfl rfl rfl (ZX (KF (t := 39) (f := 3) rfl rfl)) rfl) (ze (by first | exact zz rfl rfl rfl (ZL (KK (t := 3) rfl)) rfl) (zm)))), ?_⟩
 refine WQ ?_
 refine ZR ?_
 iterate 6 refine WX1 ?_
 refine zf rfl Ybsr ?_
 rintro _ _ ⟨vst, rfl, rfl⟩
 refine WE ?_
 obtain ⟨w4, hw4⟩ : ∃ w4, w4 = [st, Lib.itoa no, Lib.itoa a_, kw] := ⟨_, rfl⟩
 rw [← hw4] at htx
 obtain ⟨l3, hl3⟩ : ∃ l3, l3 = [pr, jb, sp] := ⟨_, rfl⟩
 rw [← hl3] at htx
 have hn3 : l3.length = 3 := by rw [hl3]; rfl
 have hn4 : w4.length = 4 := by rw [hw4]; rfl
 refine zK (fun m F H => ∃ (k c : Nat), m + k = 3 ∧ (w4 ++ (l3.take k).filter (fun s => decide (s ≠ []))).length ≤ c ∧ F = [(1, .p 0 0 0), (3, .o 1 0 (w4 ++ (l3.take k).filter (fun s => decide (s ≠ []))).length c), (27, .c (.r vst (wR l3))), (28, .c (I 3)), (29, .c (I k))] ∧ H = [.box [.c (T st), .c (I no), .c (I a_), .c (I kn), .c (T pr), .c (T jb), .c (T sp), .c (I n), .c (T of_), .c (I ot)], .arr 9 1 c (wR (w4 ++ (l3.take k).filter (fun s => decide (s ≠ []))))]) ?_ ?_
 ·refine zp [some 0, some 1] (fun _ => [(1, .p 0 0 0), (3, .o 1 0 4 4), (27, .c (.r vst (wR l3))), (28, .c (I 3)), (29, .c (I (0 : Nat)))]) (fun _ => [.box [.c (T st), .c (I no), .c (I a_), .c (I kn), .c (T pr), .c (T jb), .c (T sp), .c (I n), .c (T of_), .c (I ot)], .arr 9 1 4 (wR w4)]) (by decide) (ZNL hE) (by rw [hl3]; exact ZCF) (by rw [hw4]; exact ZCH) (fun _ => ⟨3, 0, 4, rfl, by simp [hn4], ?_, ?_⟩)
  ·simp [hn4]
  ·simp
 rintro m F H ⟨k, c, hk, hc, rfl, rfl⟩
 have eL : (wR l3).length = 3 := by simp [hn3]
 generalize hb : w4 ++ (l3.take k).filter (fun s => decide (s ≠ [])) = b at hc ⊢
 have eB : (wR b).length = b.length := by simp
 have hbl : b.length ≤ 7 := by
  rw [← hb, List.length_append, hn4]
  have h5 := List.length_filter_le (fun s => decide (s ≠ [])) (l3.take k)
  rw [List.length_take] at h5
  omega
 refine WA ?_
 refine zw rfl (fun hlt => ?_) (fun hge => ?_)
 ·obtain ⟨s, hs⟩ : ∃ s, l3[k]? = some s := ⟨_, List.getElem?_eq_getElem (by omega)⟩
  have hrow : (wR l3)[k]? = some [T s] := by rw [List.getElem?_map, hs]; rfl
  have hnx : w4 ++ (l3.take (k + 1)).filter (fun s => decide (s ≠ [])) = b ++ (if s ≠ [] then [s] else []) := by
   rw [← hb, List.take_add_one, hs, Option.toList_some, List.filter_append, ← List.append_assoc]
   congr 1
   by_cases hsn : s = []
   ·subst hsn; rfl
   ·rw [if_pos hsn, List.filter_cons_of_pos (by simpa using hsn)]; rfl
  refine WA ?_
  obtain ⟨q, hq⟩ : ∃ q, decide (s ≠ []) = q := ⟨_, rfl⟩
  refine ZR ?_
  refine WX1 ?_
  refine ZA (zZ (b := []) hq rfl Tryz.underlying9 rfl rfl) ?_
  refine WE ?_
  cases q with
  | true =>
   rw [if_pos (of_decide_eq_true hq)] at hnx
   refine zb rfl ?_
   refine ZZ ?_
   refine WR ?_
   refine zf rfl (Zapp (KA (t := 61) rfl)) ?_
   rintro _ _ ⟨_, cc, hcc, rfl, rfl⟩
   refine WE ?_
   refine WA ?_
   refine zp [some 0, some 1] (fun _ => [(1, .p 0 0 0), (3, .o 1 0 (b.length + 1) cc), (27, .c (.r vst (wR l3))), (28, .c (I 3)), (29, .c (I (k + 1 : Nat)))]) (fun _ => [.box [.c (T st), .c (I no), .c (I a_), .c (I kn), .c (T pr), .c (T jb), .c (T sp), .c (I n), .c (T of_), .c (I ot)], .arr 9 1 cc (wR b ++ [[T s]])]) (by decide) (ZNL hE) ZCF ZCH (fun _ => ⟨m - 1, by omega, k + 1, cc, by omega, ?_, ?_, ?_⟩)
   ·rw [hnx]; simp; omega
   ·rw [hnx]; simp
   ·rw [hnx]; simp
  | false =>
   rw [if_neg (of_decide_eq_false hq)] at hnx
   rw [List.append_nil] at hnx
   refine za rfl ?_
   refine ZZ ?_
   refine WA ?_
   refine zp [some 0, some 1] (fun _ => [(1, .p 0 0 0), (3, .o 1 0 b.length c), (27, .c (.r vst (wR l3))), (28, .c (I 3)), (29, .c (I (k + 1 : Nat)))]) (fun _ => [.box [.c (T st), .c (I no), .c (I a_), .c (I kn), .c (T pr), .c (T jb), .c (T sp), .c (I n), .c (T of_), .c (I ot)], .arr 9 1 c (wR b)]) (by decide) (ZNL hE) ZCF ZCH (fun _ => ⟨m - 1, by omega, k + 1, c, by omega, ?_, ?_, ?_⟩)
   ·rw [hnx]; exact hc
   ·rw [hnx]
   ·rw [hnx]
 obtain rfl : k = 3 := by omega
 rw [List.take_of_length_le (by omega)] at hb
 rw [hb] at htx
 clear hb hk hge hn3 hl3 hw4 hn4 eL hkw hrk
 refine ZZ ?_
 refine WR ?_
 refine zf rfl (zc false (fun _ => usesof_v kn) rfl .fn rfl (by decide) (by kernel_rfl) rfl (fun _ => C0 rfl) (by simp)) ?_
 rintro _ _ ⟨_, _, _, ⟨rfl, rfl⟩, hF, hH⟩
 rw [show usA kn = .a [.c (B (uP kn)), .c (B (uJ kn)), .c (B (uS kn)), .c (B (uU kn)), .c (I (uM kn))] from rfl] at hF
 (refine NST hF hH ?_; clear hF hH; rintro rfl rfl)
 refine WE ?_
 refine WA ?_
 refine zA1 (fun F H => ∃ (b2 : List (List UInt8)) (c2 : Nat), b2 = b ++ (if 0 < uM kn then [Lib.itoa n] else []) ∧ b2.length ≤ c2 ∧ b2.length ≤ 8 ∧ F = [(1, .p 0 0 0), (3, .o 1 0 b2.length c2), (6, .p 2 0 0)] ∧ H = [.box [.c (T st), .c (I no), .c (I a_), .c (I kn), .c (T pr), .c (T jb), .c (T sp), .c (I n), .c (T of_), .c (I ot)], .arr 9 1 c2 (wR b2), .box [.c (B (uP kn)), .c (B (uJ kn)), .c (B (uS kn)), .c (B (uU kn)), .c (I (uM kn))]]) ?_ ?_ zq2
 ·refine zw rfl (fun hq => ?_) (fun hq => ?_)
  ·have hu := u2 hq
   rw [if_pos hq]
   refine WR ?_
   refine zf rfl (zQ TabX (hX _ _) false (fun _ => zZ3 n (by omega) (by omega)) rfl .fn rfl (by decide) (by kernel_rfl) rfl (fun _ => C0 rfl) (by simp)) ?_
   rintro _ _ ⟨_, _, _, ⟨rfl, rfl⟩, hF, hH⟩
   (refine NST hF hH ?_; clear hF hH; rintro rfl rfl)
   refine WO ?_
   refine zf rfl (Zapp (KA (t := 61) rfl)) ?_
   rintro _ _ ⟨_, cc, hcc, rfl, rfl⟩
   refine WE ?_
   exact zp [some 0, some 1, some 2] (fun _ => [(1, .p 0 0 0), (3, .o 1 0 (b.length + 1) cc), (6, .p 2 0 0)]) (fun _ => [.box [.c (T st), .c (I no), .c (I a_), .c (I kn), .c (T pr), .c (T jb), .c (T sp), .c (I n), .c (T of_), .c (I ot)], .arr 9 1 cc (wR b ++ [[T (Lib.itoa n)]]), .box [.c (B (uP kn)), .c (B (uJ kn)), .c (B (uS kn)), .c (B (uU kn)), .c (I (uM kn))]]) (by decide) (ZNL hE) ZCF ZCH (fun _ => ⟨_, cc, rfl, by simp; omega, by simp; omega, by simp, by simp⟩)
  ·rw [if_neg hq, List.append_nil]
   refine ZZ ?_
   exact zp [some 0, some 1, some 2] (fun _ => [(1, .p 0 0 0), (3, .o 1 0 b.length c), (6, .p 2 0 0)]) (fun _ => [.box [.c (T st), .c (I no), .c (I a_), .c (I kn), .c (T pr), .c (T jb), .c (T sp), .c (I n), .c (T of_), .c (I ot)], .arr 9 1 c (wR b), .box [.c (B (uP kn)), .c (B (uJ kn)), .c (B (uS kn)), .c (B (uU kn)), .c (I (uM kn))]]) (by decide) (ZNL hE) ZCF ZCH (fun _ => ⟨_, c, rfl, hc, by omega, rfl, rfl⟩)
 rintro F H ⟨b2, c2, hb2, hc2, hl2, rfl, rfl⟩
 rw [← hb2] at htx
 have eB2 : (wR b2).length = b2.length := by simp
 refine WA ?_
 refine zA1 (fun F H => ∃ (c3 : Nat), tw.length ≤ c3 ∧ F = [(1, .p 0 0 0), (3, .o 1 0 tw.length c3)] ∧ H = [.box [.c (T st), .c (I no), .c (I a_), .c (I kn), .c (T pr), .c (T jb), .c (T sp), .c (I n), .c (T of_), .c (I ot)], .arr 9 1 c3 (wR tw)]) ?_ ?_ zq2
 ·rw [htx]
  cases hq : uU kn with
  | true =>
   have hu := u1 hq
   refine zb rfl ?_
   refine ZZ ?_
   refine zk [(0, none), (1, none), (2, none), (3, none), (4, none), (5, some [0, 1, 2]), (6, some [0]), (7, some []), (8, none)] zS (by kernel_rfl) ?_
   refine WP ?_
   refine zi2 rfl rfl (zQ TabX (hX _ _) false (fun _ => zZ3 ot (by omega) (by omega)) rfl .fn rfl (by decide) (by kernel_rfl) rfl (fun _ => C0 rfl) (by simp)) ?_
   rintro _ _ ⟨_, _, _, ⟨rfl, rfl⟩, hF, hH⟩
   (refine NST hF hH ?_; clear hF hH; rintro rfl rfl)
   refine ⟨ze (by first | exact zz rfl rfl rfl (zR2 rfl rfl) rfl) (ze (by first | exact zz rfl rfl rfl (ZX (KF (t := 39) (f := 8) rfl rfl)) rfl) (ze (by first | exact zz rfl rfl rfl (ZL (KK (t := 9) rfl)) rfl) (zm))), ?_⟩
   refine WP ?_
   refine zi2 rfl rfl (Zapp (KA (t := 61) rfl)) ?_
   rintro _ _ ⟨_, cc, hcc, rfl, rfl⟩
   refine ⟨zm, ?_⟩
   refine WQ ?_
   exact zp [some 0, some 1] (fun _ => [(1, .p 0 0 0), (3, .o 1 0 (b2.length + 2) cc)]) (fun _ => [.box [.c (T st), .c (I no), .c (I a_), .c (I kn), .c (T pr), .c (T jb), .c (T sp), .c (I n), .c (T of_), .c (I ot)], .arr 9 1 cc (wR b2 ++ [[T of_], [T (Lib.itoa ot)]])]) (by decide) (ZNL hE) ZCF ZCH (fun _ => ⟨cc, by simp; omega, by simp, by simp⟩)
  | false =>
   refine za rfl ?_
   refine ZZ ?_
   exact zp [some 0, some 1] (fun _ => [(1, .p 0 0 0), (3, .o 1 0 b2.length c2)]) (fun _ => [.box [.c (T st), .c (I no), .c (I a_), .c (I kn), .c (T pr), .c (T jb), .c (T sp), .c (I n), .c (T of_), .c (I ot)], .arr 9 1 c2 (wR b2)]) (by decide) (ZNL hE) ZCF ZCH (fun _ => ⟨c2, by simp; omega, by simp, by simp⟩)
 rintro F H ⟨c3, hc3, rfl, rfl⟩
 refine WR ?_
 refine zf rfl (zc true (fun g => kjoin_v (g (.o 1 0 tw.length c3)) tw hjl (by omega)) rfl .fn rfl (by decide) (by kernel_rfl) rfl (fun _ => .cons (.frz rfl rfl (by rw [List.drop_zero, List.take_of_length_le (by simp)]) (by simp) rfl) .nil) (fun _ _ _ _ ⟨hu, hH⟩ => by rw [hu, hH]; exact ⟨.c (.inl trivial), by simp⟩)) ?_
 rintro _ _ ⟨_, _, _, ⟨rfl, rfl⟩, hF, hH⟩
 (refine NST hF hH ?_; clear hF hH; rintro rfl rfl)
 refine WE ?_
 exact zh [] _ rfl rfl rfl (by decide) (ZNK rfl) (fun _ => .nil) ⟨rfl, rfl⟩
theorem txF_take {l : List Nt} {k : Nat} {x : Nt} (h : l[k]? = some x) : txF (l.take (k + 1)) = txF (l.take k) ++ jnF (txW x) := by
 unfold txF
 rw [List.take_add_one, h, Option.toList_some, List.map_append, List.flatten_append]
 simp
theorem txF_pos {l : List Nt} (h : l ≠ []) : 0 < (txF l).length := by
 cases l with
 | nil => exact absurd rfl h
 | cons x l =>
  unfold txF
  rw [List.map_cons, List.flatten_cons, List.length_append]
  have : 0 < (jnF (txW x)).length := by unfold jnF; simp
  omega
set_option maxHeartbeats 1000000 in
theorem text_v (v : Value) (l : List Nt) (hl : l.length ≤ 1000000) (hs : ∀ x ∈ l, NtS x) (hll : l.length ≤ 400) : ACallsW TabX false Tryz.prog 10 [.c (.r v (noRs l))] [] fun u H => u = .t [.c (T (if chkN l = 0 then txF l else [])), .c (I (chkN l))] ∧ H = [] := by
 have eL : (noRs l).length = l.length := by simp
 refine zD1 zk2 false (N := 26) Tryz.func10 rfl rfl (by simp) fun E hE hP hX => ?_
 refine WA ?_
 refine WR ?_
 refine zf rfl (zc false (fun _ => zc4 v l hl hs) rfl .fn rfl (by decide) (by kernel_rfl) rfl (fun _ => C0 rfl) (by simp)) ?_
 rintro _ _ ⟨_, _, _, ⟨rfl, rfl⟩, hF, hH⟩
 (refine NST hF hH ?_; clear hF hH; rintro rfl rfl)
 refine WE ?_
 obtain ⟨e, he⟩ : ∃ e, chkN l = e := ⟨_, rfl⟩
 rw [he]
 refine WA ?_
 refine zw rfl (fun h0 => ?_) (fun h0 => ?_)
 ·rw [if_neg h0]
  refine WA ?_
  exact zC1 [] _ rfl rfl rfl rfl rfl (by decide) (ZNK rfl) (fun _ => .nil) ⟨rfl, rfl⟩
 obtain rfl : e = 0 := Decidable.not_not.1 h0
 rw [if_pos rfl]
 have hn := (chkN_pw.1 he).2.1
 have htl := txF_len hn
 refine ZZ ?_
 refine ZR ?_
 refine zf rfl (ef_alloct (z := .agg #[.pointer none, .slice none 0 0]) (vs := [.pointer none, .slice none 0 0]) rfl rfl (by decide) (by kernel_rfl) rfl rfl) ?_
 rintro _ _ ⟨rfl, rfl⟩
 refine WE ?_
 refine WA ?_
 by_cases hne : l = []
 ·subst hne
  refine zK (fun m F H => F = [(5, .p 0 0 0), (13, .c (.r v [])), (14, .c (I 0)), (15, .c (I 0))] ∧ H = [bld0]) ?_ ?_
  ·refine zp [some 0] (fun _ => [(5, .p 0 0 0), (13, .c (.r v [])), (14, .c (I 0)), (15, .c (I 0))]) (fun _ => [bld0]) (by decide) (ZNL hE) ZCF ZCH (fun _ => ⟨0, rfl, rfl⟩)
  rintro m F H ⟨rfl, rfl⟩
  refine WA ?_
  refine za rfl ?_
  refine ZZ ?_
  refine ZR ?_
  refine zf rfl (zb2 [0] (fun _ => [bld0]) false (fun _ => blen0_v) rfl .fn rfl (by decide) (by kernel_rfl) rfl (fun _ => .cons (.p rfl) .nil) (by decide) ZCH (by simp)) ?_
  rintro F1 H1 ⟨_, _, _, _, ⟨rfl, rfl⟩, hF, hH⟩
  rw [zf1] at hF
  (refine NSU hF hH ?_; clear hF hH; rintro rfl rfl)
  refine WE ?_
  refine za rfl ?_
  refine ZZ ?_
  refine ZR ?_
  refine zf rfl (zb2 [0] (fun _ => [bld0]) false (fun _ => bstr0_v) rfl .fn rfl (by decide) (by kernel_rfl) rfl (fun _ => .cons (.p rfl) .nil) (by decide) ZCH (by simp)) ?_
  rintro F1 H1 ⟨_, _, _, _, ⟨rfl, rfl⟩, hF, hH⟩
  rw [zf1] at hF
  (refine NSU hF hH ?_; clear hF hH; rintro rfl rfl)
  refine WE ?_
  exact zC1 [] _ rfl rfl rfl rfl rfl (by decide) (ZNK rfl) (fun _ => .nil) ⟨rfl, rfl⟩
 refine zK (fun m F H => ∃ (k c : Nat) (A : AV), m + k = l.length ∧ (A = pnil ∧ k = 0 ∨ A = .p 0 0 0) ∧ (txF (l.take k)).length ≤ c ∧ F = [(5, .p 0 0 0), (13, .c (.r v (noRs l))), (14, .c (I (noRs l).length)), (15, .c (I k))] ∧ H = [bldB A 1 (txF (l.take k)).length c, bldA c (txF (l.take k))]) ?_ ?_
 ·refine zp [some 0, none] (fun _ => [(5, .p 0 0 0), (13, .c (.r v (noRs l))), (14, .c (I (noRs l).length)), (15, .c (I (0 : Nat)))]) (fun _ => [bldB pnil 1 0 0, bldA 0 []]) (by decide) (ZNL hE) ZCF ZCH (fun _ => ⟨l.length, 0, 0, pnil, rfl, .inl ⟨rfl, rfl⟩, Nat.le_refl _, rfl, rfl⟩)
 rintro m F H ⟨k, c, A, hk, hA, hc, rfl, rfl⟩
 have hPl : (txF (l.take k)).length ≤ 410 * k := by
  have := txF_len (l := l.take k) fun x hx => hn x (List.mem_of_mem_take hx)
  rw [List.length_take] at this
  omega
 refine WA ?_
 refine zw rfl (fun hlt => ?_) (fun hge => ?_)
 ·obtain ⟨x, hx⟩ : ∃ x, l[k]? = some x := ⟨_, List.getElem?_eq_getElem (by omega)⟩
  have hxn := hn x (List.mem_of_getElem? hx)
  have hnx := txF_take hx
  obtain ⟨jx, hjx⟩ : ∃ jx, jnF (txW x) = jx := ⟨_, rfl⟩
  have hjl := tx_len hxn
  rw [hjx] at hnx hjl
  have hrow0 := zf2 hx
  generalize txF (l.take k) = P at hnx hc hPl ⊢
  obtain ⟨st, no, a_, kn, pr, jb, sp, n, of_, ot⟩ := x
  have hrow : (noRs l)[k]? = some [T st, I no, I a_, I kn, T pr, T jb, T sp, I n, T of_, I ot] := hrow0
  refine WA ?_
  have hcv : ∃ A', (A' = pnil ∨ A' = .p 0 0 0) ∧ ∀ g' : AV → Value, CvH g' [some 0, some 1] [bldB A 1 P.length c, bldA c P, .box [.c (T st), .c (I no), .c (I a_), .c (I kn), .c (T pr), .c (T jb), .c (T sp), .c (I n), .c (T of_), .c (I ot)]] false [some 0, some 1] [bldB A' 1 P.length c, bldA c P] := by
   rcases hA with ⟨rfl, _⟩ | rfl
   ·exact ⟨pnil, .inl rfl, fun _ => .oth rfl (.boxt (.cons (.c rfl) (.cons (.o rfl rfl) .nil))) (.arr rfl rfl .nil)⟩
   ·exact ⟨.p 0 0 0, .inr rfl, fun _ => .oth rfl (.boxt (.cons (.p rfl) (.cons (.o rfl rfl) .nil))) (.arr rfl rfl .nil)⟩
  obtain ⟨A', hA', hcv⟩ := hcv
  refine WR ?_
  refine zf rfl (zQ TabX (hX _ _) false (fun _ => notetext_v _ hxn) rfl .fn rfl (by decide) (by kernel_rfl) rfl (fun _ => C0 rfl) (by simp)) ?_
  rintro _ _ ⟨_, _, _, ⟨rfl, rfl⟩, hF, hH⟩
  rw [hjx] at hF
  (refine NST hF hH ?_; clear hF hH; rintro rfl rfl)
  refine zf rfl (zX [0, 1] (fun _ => [bldB A' 1 P.length c, bldA c P]) false (fun _ => writestr_v A' c P jx hA' (by omega) (by omega)) rfl .fn rfl (by decide) (by kernel_rfl) rfl (fun _ => .cons (.p rfl) (.cons (.c rfl) .nil)) (by decide) hcv (by simp) (.inl ⟨_, hE, rfl⟩)) ?_
  rintro F1 H1 ⟨_, _, _, _, ⟨cc, rfl, rfl, hcc⟩, hF, hH⟩
  (refine NSU hF hH ?_; clear hF hH; rintro rfl rfl)
  refine WE ?_
  refine WA ?_
  refine zp [some 0, some 1] (fun _ => [(5, .p 0 0 0), (13, .c (.r v (noRs l))), (14, .c (I (noRs l).length)), (15, .c (I (k + 1 : Nat)))]) (fun _ => [bldB (.p 0 0 0) 1 (P ++ jx).length cc, bldA cc (P ++ jx)]) (by decide) (ZNL hE) ZCF (fun _ => .oth rfl (.boxt (.cons (.p rfl) (.cons (.o rfl rfl) .nil))) (.arr rfl rfl .nil)) (fun _ => ⟨m - 1, by omega, k + 1, cc, .p 0 0 0, by omega, .inr rfl, ?_, rfl, ?_⟩)
  ·rw [hnx]; exact hcc
  ·rw [hnx]
 ·obtain rfl : k = l.length := by omega
  rw [List.take_length] at hc hPl ⊢
  have hpos := txF_pos hne
  have hl0 : 0 < l.length := List.length_pos_iff.2 hne
  obtain rfl : A = .p 0 0 0 := hA.resolve_left fun h => by omega
  generalize txF l = P at hpos hc hPl ⊢
  have hsm : ¬ (200000 : Int) < (P.length : Int) := by omega
  refine ZZ ?_
  refine ZR ?_
  refine zf rfl (zb2 [0, 1] (fun _ => [bldB (.p 0 0 0) 1 P.length c, bldA c P]) false (fun _ => blen_v (.p 0 0 0) c P (.inr rfl)) rfl .fn rfl (by decide) (by kernel_rfl) rfl (fun _ => .cons (.p rfl) .nil) (by decide) (fun _ => .oth rfl (.boxt (.cons (.p rfl) (.cons (.o rfl rfl) .nil))) (.arr rfl rfl .nil)) (by simp)) ?_
  rintro F1 H1 ⟨_, _, _, _, ⟨rfl, rfl⟩, hF, hH⟩
  rw [zf1] at hF
  (refine NSU hF hH ?_; clear hF hH; rintro rfl rfl)
  refine WE ?_
  refine za rfl ?_
  refine ZZ ?_
  refine ZR ?_
  refine zf rfl (zX [0, 1] (fun _ => [bldB (.p 0 0 0) 1 P.length c, bldA c P]) false (fun _ => bstring_v (.p 0 0 0) c P (by omega) (by omega) hc rfl) rfl .fn rfl (by decide) (by kernel_rfl) rfl (fun _ => .cons (.p rfl) .nil) (by decide) (fun _ => .oth rfl (.boxt (.cons (.p rfl) (.cons (.o rfl rfl) .nil))) (.arr rfl rfl .nil)) (by simp) (.inl ⟨_, hE, rfl⟩)) ?_
  rintro F1 H1 ⟨_, _, _, _, ⟨rfl, z, rfl⟩, hF, hH⟩
  (refine NSU hF hH ?_; clear hF hH; rintro rfl rfl)
  refine WE ?_
  exact zC1 [] _ rfl rfl rfl rfl rfl (by decide) (ZNK rfl) (fun _ => .nil) ⟨rfl, rfl⟩
end Go.Proofs.YtlhbfcfjepbhpaaGreatDoor
