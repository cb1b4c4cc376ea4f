/- The document reads notes (NotesRead), by value. -/
import Derived.Test.YtlhbfcfjepbhpaaGreatDoorQbh
import Derived.Test.YtlhbfcfjepbhpaaGreatDoorQbf
set_option linter.unusedSimpArgs false
set_option linter.unusedVariables false
-- NEWM
namespace Go.Proofs.YtlhbfcfjepbhpaaGreatDoor
open Go Go.RowKit
set_option maxRecDepth 100000
theorem containsN_v (fn : FuncId) (hfn : okFn Tryz.prog fn = true) (p : Nt → Bool) (b : Nt) (v : Value) (l : List Nt) (hl : l.length ≤ 1000000000) (hp : ∀ x ∈ l, ACalls Tryz.prog fn [noA x, .p 0 0 0] [.box ((noR b).map .c)] fun u H => u = .c (B (p x)) ∧ H = [.box ((noR b).map .c)]) :
    ACalls Tryz.prog 58 [.c (.r v (noRs l)), .f (.func fn) [.p 0 0 0]] [.box ((noR b).map .c)] fun u H => u = .c (B (l.any p)) ∧ H = [.box ((noR b).map .c)] := by
 have hix := indexN_v fn hfn p b v l hl hp
 obtain ⟨c0, c1, c2, c3, c4, c5, c6, c7, c8, c9⟩ := b
 change ACalls _ _ _ [.box [.c (T c0), .c (I c1), .c (I c2), .c (I c3), .c (T c4), .c (T c5), .c (T c6), .c (I c7), .c (T c8), .c (I c9)]] fun u H => u = .c (I (idxP p l 0)) ∧ H = [.box [.c (T c0), .c (I c1), .c (I c2), .c (I c3), .c (T c4), .c (T c5), .c (T c6), .c (I c7), .c (T c8), .c (I c9)]] at hix
 show ACalls _ _ _ [.box [.c (T c0), .c (I c1), .c (I c2), .c (I c3), .c (T c4), .c (T c5), .c (T c6), .c (I c7), .c (T c8), .c (I c9)]] fun u H => u = .c (B (l.any p)) ∧ H = [.box [.c (T c0), .c (I c1), .c (I c2), .c (I c3), .c (T c4), .c (T c5), .c (T c6), .c (I c7), .c (T c8), .c (I c9)]]
 refine zg (N := 9) Tryz.func58 rfl rfl (by simp) fun E hE => ?_
 by_cases hs : 0 ≤ idxP p l 0
 ·repeat' (first
   | (with_reducible refine zC ?_) | (with_reducible refine zA ?_) | (with_reducible refine zE ?_) | (with_reducible refine zI ?_) | (with_reducible refine zG ?_) | (with_reducible refine zJ ?_) | (with_reducible refine zH rfl ?_) | (with_reducible refine zF ?_) | (with_reducible refine zq ?_) | (with_reducible refine zj ?_) | (with_reducible refine zD ?_) | (with_reducible refine zt ?_)
   | refine zb rfl ?_ | refine za rfl ?_ | refine zr rfl (by assumption) ?_ | refine zo rfl (by assumption) ?_ | refine zw rfl (fun _ => ?_) (fun _ => ?_) | refine zn rfl (fun _ => ?_) (fun _ => ?_)
   | (refine zd (id := 1) ?_
      refine WO ?_
      refine zf rfl (zX [0] (fun _ => [.box [.c (T c0), .c (I c1), .c (I c2), .c (I c3), .c (T c4), .c (T c5), .c (T c6), .c (I c7), .c (T c8), .c (I c9)]]) false (fun _ => hix) rfl .fn rfl (by decide) (by kernel_rfl) rfl ZCH (by decide) ZCH (by simp)) ?_
      rintro F1 H1 ⟨_, _, _, _, ⟨rfl, rfl⟩, hF, hH⟩
      (refine NSU hF hH ?_; clear hF hH; rintro rfl rfl)
      refine WE ?_)
   | (refine zd ?_; refine WE ?_))
  exact zh [some 0] [.box [.c (T c0), .c (I c1), .c (I c2), .c (I c3), .c (T c4), .c (T c5), .c (T c6), .c (I c7), .c (T c8), .c (I c9)]] rfl rfl rfl (by decide) (ZNK rfl) ZCH ⟨congrArg (fun z => AV.c (B z)) (idxP_any.1 hs).symm, rfl⟩
 ·repeat' (first
   | (with_reducible refine zC ?_) | (with_reducible refine zA ?_) | (with_reducible refine zE ?_) | (with_reducible refine zI ?_) | (with_reducible refine zG ?_) | (with_reducible refine zJ ?_) | (with_reducible refine zH rfl ?_) | (with_reducible refine zF ?_) | (with_reducible refine zq ?_) | (with_reducible refine zj ?_) | (with_reducible refine zD ?_) | (with_reducible refine zt ?_)
   | refine zb rfl ?_ | refine za rfl ?_ | refine zr rfl (by assumption) ?_ | refine zo rfl (by assumption) ?_ | refine zw rfl (fun _ => ?_) (fun _ => ?_) | refine zn rfl (fun _ => ?_) (fun _ => ?_)
   | (refine zd (id := 1) ?_
      refine WO ?_
      refine zf rfl (zX [0] (fun _ => [.box [.c (T c0), .c (I c1), .c (I c2), .c (I c3), .c (T c4), .c (T c5), .c (T c6), .c (I c7), .c (T c8), .c (I c9)]]) false (fun _ => hix) rfl .fn rfl (by decide) (by kernel_rfl) rfl ZCH (by decide) ZCH (by simp)) ?_
      rintro F1 H1 ⟨_, _, _, _, ⟨rfl, rfl⟩, hF, hH⟩
      (refine NSU hF hH ?_; clear hF hH; rintro rfl rfl)
      refine WE ?_)
   | (refine zd ?_; refine WE ?_))
  exact zh [some 0] [.box [.c (T c0), .c (I c1), .c (I c2), .c (I c3), .c (T c4), .c (T c5), .c (T c6), .c (I c7), .c (T c8), .c (I c9)]] rfl rfl rfl (by decide) (ZNK rfl) ZCH ⟨congrArg (fun z => AV.c (B z)) (Bool.eq_false_iff.2 fun h => hs (idxP_any.2 h)).symm, rfl⟩
theorem any_same {l : List Nt} {x : Nt} : l.any (fun o => snB o x) = (l.map ky).contains (ky x) := by
 rw [Bool.eq_iff_iff, List.any_eq_true, List.contains_iff_mem, List.mem_map]
 constructor
 ·rintro ⟨o, ho, h⟩
  refine ⟨o, ho, ?_⟩
  simp [snB] at h
  simp [h]
 ·rintro ⟨o, ho, h⟩
  refine ⟨o, ho, ?_⟩
  simp at h
  simp [snB, h]
set_option maxHeartbeats 2000000 in
theorem zU2 (v : Value) (l : List Nt) (hl : l.length ≤ 1000000) (hs : ∀ x ∈ l, NtS x) : ACalls Tryz.prog 11 [.c (.r v (noRs l))] [] fun u H => u = .c (I (chkN l)) ∧ H = [] := by
 have e1 : (noRs l).length = l.length := by simp
 refine zg (N := 49) Tryz.func11 rfl rfl (by simp) fun E hE => ?_
 refine WA ?_
 refine WA ?_
 refine zw rfl (fun h0 => ?_) (fun h0 => ?_)
 ·refine WA ?_
  exact zh [] _ rfl rfl rfl (by decide) (ZNK rfl) (fun _ => .nil) ⟨by rw [chkN, if_pos (by omega)], rfl⟩
 have e2 : chkN l = if chkA none l ≠ 0 then chkA none l else if (l.map ky).Nodup then 0 else 6 := by rw [chkN, if_neg (by omega)]
 refine ZZ ?_
 refine WA ?_
 refine zK (fun m F H => ∃ (k : Nat), m + k = l.length ∧ chkA (prv l k) (l.drop k) = chkA none l ∧ F = [(0, .c (.r v (noRs l))), (11, .c (.r v (noRs l))), (12, .c (I (noRs l).length)), (13, .c (I k))] ∧ H = []) ?_ ?_
 ·refine zp [] (fun _ => [(0, .c (.r v (noRs l))), (11, .c (.r v (noRs l))), (12, .c (I (noRs l).length)), (13, .c (I (0 : Nat)))]) (fun _ => []) (by decide) (ZNL hE) ZCF (fun _ => .nil) (fun _ => ?_)
  exact ⟨l.length, 0, by omega, rfl, rfl, rfl⟩
 ·rintro m F H ⟨k, hk, hf, rfl, rfl⟩
  refine WA ?_
  refine zw rfl (fun hlt => ?_) (fun hge => ?_)
  ·obtain ⟨x, hx⟩ : ∃ n, l[k]? = some n := ⟨_, List.getElem?_eq_getElem (by omega)⟩
   have hrow0 := zf2 hx
   have hxs := hs x (List.mem_of_getElem? hx)
   rw [drop_at hx, chkA_cons] at hf
   have hpn := prv_next hx
   obtain ⟨st, no, at_, kn, pr, jb, sp, n, of_, ot⟩ := x
   have hrow : (noRs l)[k]? = some [T st, I no, I at_, I kn, T pr, T jb, T sp, I n, T of_, I ot] := hrow0
   refine WA ?_
   refine WR ?_
   refine zf rfl (zc false (fun _ => rnf_v ⟨st, no, at_, kn, pr, jb, sp, n, of_, ot⟩ hxs) rfl .fn rfl (by decide) (by kernel_rfl) rfl (fun _ => .cons (.aL (C0 rfl)) .nil) (by simp)) ?_
   rintro _ _ ⟨_, _, _, ⟨rfl, rfl⟩, hF, hH⟩
   (refine NST hF hH ?_; clear hF hH; rintro rfl rfl)
   refine WE ?_
   generalize ntF ⟨st, no, at_, kn, pr, jb, sp, n, of_, ot⟩ = e at hf ⊢
   refine WA ?_
   refine zw rfl (fun h1 => ?_) (fun h1 => ?_)
   ·rw [if_pos h1] at hf
    refine WA ?_
    exact zh [] _ rfl rfl rfl (by decide) (ZNK rfl) (fun _ => .nil) ⟨by rw [e2, ← hf, if_pos h1], rfl⟩
   rw [if_neg h1] at hf
   refine ZZ ?_
   obtain ⟨q, hq⟩ : ∃ q, badO (prv l k) ⟨st, no, at_, kn, pr, jb, sp, n, of_, ot⟩ = q := ⟨_, rfl⟩
   rw [hq] at hf
   refine zA1 (fun F H => ∃ p, F = [(0, .c (.r v (noRs l))), (11, .c (.r v (noRs l))), (12, .c (I (noRs l).length)), (13, .c (I k)), (34, .c (B q))] ∧ H = [.box p]) ?_ ?_ zq2
   ·by_cases hk0 : k = 0
    ·subst hk0
     have hq' : q = false := hq.symm
     subst hq'
     refine ZZ ?_
     refine zk [(0, none), (1, none), (2, none), (3, none), (4, none), (5, none), (6, none), (7, none), (8, none), (9, some []), (10, none), (11, none)] zS (by kernel_rfl) ?_
     refine WP ?_
     first | refine zm3 rfl rfl rfl (by decide) ⟨zm, ?_⟩ | (refine zn3 rfl (zc false (fun _ => norder_v ⟨st, no, at_, kn, pr, jb, sp, n, of_, ot⟩ ⟨st, no, at_, kn, pr, jb, sp, n, of_, ot⟩) rfl .fn rfl (by decide) (by kernel_rfl) rfl (fun _ => .cons (.aL (C0 rfl)) (.cons (.aL (C0 rfl)) .nil)) (by simp)) ?_; rintro _ _ ⟨_, _, _, ⟨rfl, rfl⟩, hF, hH⟩; (refine NST hF hH ?_; clear hF hH; rintro rfl rfl); refine ⟨zm, ?_⟩)
     refine WQ ?_
     all_goals refine zp [some 0] (fun _ => [(0, .c (.r v (noRs l))), (11, .c (.r v (noRs l))), (12, .c (I (noRs l).length)), (13, .c (I (0 : Nat))), (34, .c (B false))]) (fun _ => [.box [.c (T st), .c (I no), .c (I at_), .c (I kn), .c (T pr), .c (T jb), .c (T sp), .c (I n), .c (T of_), .c (I ot)]]) (by decide) (ZNL hE) ZCF ZCH (fun _ => ?_)
     all_goals exact ⟨_, rfl, rfl⟩
    ·obtain ⟨y, hy⟩ : ∃ n, l[k - 1]? = some n := ⟨_, List.getElem?_eq_getElem (by omega)⟩
     have hkp : (0 : Int) < (k : Int) := by omega
     have hpy : prv l k = some y := by unfold prv; rw [if_neg hk0]; exact hy
     rw [hpy] at hq
     have hq' : decide (0 ≤ cmpNt y ⟨st, no, at_, kn, pr, jb, sp, n, of_, ot⟩) = q := hq
     have hrowy0 := zf2 hy
     have hk1 : ((k : Int) - 1) = ((k - 1 : Nat) : Int) := by omega
     obtain ⟨y0, y1, y2, y3, y4, y5, y6, y7, y8, y9⟩ := y
     have hrowy : (noRs l)[k - 1]? = some [T y0, I y1, I y2, I y3, T y4, T y5, T y6, I y7, T y8, I y9] := hrowy0
     refine ZZ ?_
     refine zk [(0, none), (1, none), (2, none), (3, none), (4, none), (5, none), (6, none), (7, none), (8, none), (9, some []), (10, none), (11, none)] zS (by kernel_rfl) ?_
     refine WP ?_
     first | refine zm3 rfl rfl rfl (by decide) ⟨zm, ?_⟩ | (refine zn3 rfl (zc false (fun _ => norder_v ⟨y0, y1, y2, y3, y4, y5, y6, y7, y8, y9⟩ ⟨st, no, at_, kn, pr, jb, sp, n, of_, ot⟩) rfl .fn rfl (by decide) (by kernel_rfl) rfl (fun _ => .cons (.aL (C0 rfl)) (.cons (.aL (C0 rfl)) .nil)) (by simp)) ?_; rintro _ _ ⟨_, _, _, ⟨rfl, rfl⟩, hF, hH⟩; (refine NST hF hH ?_; clear hF hH; rintro rfl rfl); refine ⟨zm, ?_⟩)
     refine WQ ?_
     all_goals refine zp [some 0] (fun _ => [(0, .c (.r v (noRs l))), (11, .c (.r v (noRs l))), (12, .c (I (noRs l).length)), (13, .c (I k)), (34, .c (B q))]) (fun _ => [.box [.c (T st), .c (I no), .c (I at_), .c (I kn), .c (T pr), .c (T jb), .c (T sp), .c (I n), .c (T of_), .c (I ot)]]) (by decide) (ZNL hE) ZCF ZCH (fun _ => ?_)
     all_goals exact ⟨_, rfl, rfl⟩
   rintro F H ⟨p, rfl, rfl⟩
   cases q with
   | true =>
    refine zb rfl ?_
    refine WA ?_
    exact zh [] _ rfl rfl rfl (by decide) (ZNK rfl) (fun _ => .nil) ⟨by rw [e2, ← hf]; rfl, rfl⟩
   | false =>
    refine za rfl ?_
    refine ZZ ?_
    refine WA ?_
    refine zp [] (fun _ => [(0, .c (.r v (noRs l))), (11, .c (.r v (noRs l))), (12, .c (I (noRs l).length)), (13, .c (I (k + 1 : Nat)))]) (fun _ => []) (by decide) (ZNL hE) ZCF (fun _ => .nil) (fun _ => ?_)
    exact ⟨m - 1, by omega, k + 1, by omega, by rw [hpn, ← hf]; rfl, rfl, rfl⟩
  have h0' : chkA none l = 0 := by rw [← hf, List.drop_eq_nil_of_le (by omega), chkA_nil]
  rw [if_neg (by rw [h0']; simp)] at e2
  refine ZZ ?_
  refine WA ?_
  refine zK (fun m F H => ∃ (k : Nat), m + k = l.length ∧ ((l.take k).map ky).Nodup ∧ F = [(0, .c (.r v (noRs l))), (36, .c (.r v (noRs l))), (37, .c (I (noRs l).length)), (38, .c (I k))] ∧ H = []) ?_ ?_
  ·refine zp [] (fun _ => [(0, .c (.r v (noRs l))), (36, .c (.r v (noRs l))), (37, .c (I (noRs l).length)), (38, .c (I (0 : Nat)))]) (fun _ => []) (by decide) (ZNL hE) ZCF (fun _ => .nil) (fun _ => ?_)
   exact ⟨l.length, 0, by omega, by simp, rfl, rfl⟩
  ·rintro m F H ⟨k, hk, hd, rfl, rfl⟩
   refine WA ?_
   refine zw rfl (fun hlt => ?_) (fun hge => ?_)
   ·obtain ⟨x, hx⟩ : ∃ n, l[k]? = some n := ⟨_, List.getElem?_eq_getElem (by omega)⟩
    have hrow0 := zf2 hx
    have hmt := map_take_at hx
    have hcf0 := fun v' => containsN_v 59 (by kernel_rfl) (fun o => snB o x) x v' (l.take k) (by rw [List.length_take]; omega) (fun o _ => nf1_v o x)
    rw [any_same] at hcf0
    obtain ⟨q, hq⟩ : ∃ q, ((l.take k).map ky).contains (ky x) = q := ⟨_, rfl⟩
    rw [hq] at hcf0
    obtain ⟨st, no, at_, kn, pr, jb, sp, n, of_, ot⟩ := x
    have hrow : (noRs l)[k]? = some [T st, I no, I at_, I kn, T pr, T jb, T sp, I n, T of_, I ot] := hrow0
    have hcf : ∀ v', ACalls Tryz.prog 58 [.c (.r v' (noRs (l.take k))), .f (.func 59) [.p 0 0 0]] [.box [.c (T st), .c (I no), .c (I at_), .c (I kn), .c (T pr), .c (T jb), .c (T sp), .c (I n), .c (T of_), .c (I ot)]] fun u H => u = .c (B q) ∧ H = [.box [.c (T st), .c (I no), .c (I at_), .c (I kn), .c (T pr), .c (T jb), .c (T sp), .c (I n), .c (T of_), .c (I ot)]] := hcf0
    refine WA ?_
    refine ZR ?_
    iterate 2 refine WX1 ?_
    refine zb3 rfl rfl (by decide) (rd_slicer (e := 39) (sz := 10) (l := 0) (h := k) rfl (by kernel_rfl) rfl (by intro row hr; obtain ⟨s, -, rfl⟩ := List.mem_map.1 hr; rfl) (.inl ⟨rfl, rfl⟩) (.inr ⟨_, _, _, rfl, rfl, rfl⟩) (by omega) (by omega)) ?_
    simp only [List.drop_zero]
    rw [← List.map_take]
    refine WO ?_
    refine zf rfl (zX [0] (fun _ => [.box [.c (T st), .c (I no), .c (I at_), .c (I kn), .c (T pr), .c (T jb), .c (T sp), .c (I n), .c (T of_), .c (I ot)]]) false (fun _ => hcf _) rfl .fn rfl (by decide) (by kernel_rfl) rfl ZCH (by decide) ZCH (by simp)) ?_
    rintro F1 H1 ⟨_, _, _, _, ⟨rfl, rfl⟩, hF, hH⟩
    (refine NSU hF hH ?_; clear hF hH; rintro rfl rfl)
    refine WE ?_
    cases q with
    | true =>
     refine zb rfl ?_
     refine WA ?_
     refine zh [] _ rfl rfl rfl (by decide) (ZNK rfl) (fun _ => .nil) ⟨?_, rfl⟩
     rw [e2, if_neg]
     intro hn
     rw [← List.take_append_drop (k + 1) l, List.map_append, hmt] at hn
     have h3 := (List.nodup_append.1 (List.nodup_append.1 hn).1).2.2
     have h4 := List.contains_iff_mem.1 hq
     exact h3 _ h4 _ (List.mem_singleton.2 rfl) rfl
    | false =>
     refine za rfl ?_
     refine ZZ ?_
     refine WA ?_
     refine zp [] (fun _ => [(0, .c (.r v (noRs l))), (36, .c (.r v (noRs l))), (37, .c (I (noRs l).length)), (38, .c (I (k + 1 : Nat)))]) (fun _ => []) (by decide) (ZNL hE) ZCF (fun _ => .nil) (fun _ => ?_)
     refine ⟨m - 1, by omega, k + 1, by omega, ?_, rfl, rfl⟩
     rw [hmt]
     refine List.nodup_append.2 ⟨hd, by simp, fun a ha b hb e => ?_⟩
     rw [List.mem_singleton] at hb
     subst hb; subst e
     rw [List.contains_iff_mem.2 ha] at hq; cases hq
   refine ZZ ?_
   refine WA ?_
   refine zh [] _ rfl rfl rfl (by decide) (ZNK rfl) (fun _ => .nil) ⟨?_, rfl⟩
   rw [List.take_of_length_le (by omega)] at hd
   rw [e2, if_pos hd]
end Go.Proofs.YtlhbfcfjepbhpaaGreatDoor
-- NEWM
namespace Go.Proofs.YtlhbfcfjepbhpaaGreatDoor
open Go Go.RowKit
set_option maxRecDepth 1000000
abbrev outB2 (n c : Nat) : OB := .box [.o 1 0 n c]
abbrev outA (c : Nat) (l : List Nt) : OB := .arr 39 10 c (noRs l)
theorem readclo_v (s : List UInt8) (hl : s.length ≤ 900000) (out : List Nt) (c : Nat) (hc : out.length ≤ c) (ho : out.length ≤ 1000000) : ACallsW TabX false Tryz.prog 67 [.c (T s), .p 0 0 0] [outB2 out.length c, outA c out] fun u H => ∃ (x : Nt) (c2 : Nat), u = .c (B (rnF s).isSome) ∧ (∀ y, rnF s = some y → x = y) ∧ (out ++ [x]).length ≤ c2 ∧ H = [outB2 (out ++ [x]).length c2, outA c2 (out ++ [x])] := by
 have eO : (noRs out).length = out.length := by simp
 refine zK2 (X := TabX) false (N := 16) Tryz.func67 rfl rfl (by simp) fun E hE hP hX => ?_
 refine WA ?_
 refine WR ?_
 refine zf rfl (zQ TabX (hX _ _) false (fun _ => notein_v s hl) rfl .fn rfl (by decide) (by kernel_rfl) rfl (fun _ => C0 rfl) (by simp)) ?_
 rintro _ _ ⟨_, _, _, ⟨x, rfl, hx, rfl⟩, hF, hH⟩
 obtain ⟨x1, x2, x3, x4, x5, x6, x7, x8, x9, x10⟩ := x
 simp only [noA, noR, List.map_cons, List.map_nil] at hF
 (refine NST hF hH ?_; clear hF hH; rintro rfl rfl)
 refine WE ?_
 refine WR ?_
 refine zf rfl (Zapp (KA (t := 26) rfl)) ?_
 rintro _ _ ⟨_, cc, hcc, rfl, rfl⟩
 refine WE ?_
 refine WA ?_
 exact zh [some 0, some 1] [outB2 (out ++ [(⟨x1, x2, x3, x4, x5, x6, x7, x8, x9, x10⟩ : Nt)]).length cc, outA cc (out ++ [(⟨x1, x2, x3, x4, x5, x6, x7, x8, x9, x10⟩ : Nt)])] rfl rfl rfl (by decide) (ZNK rfl) (fun _ => .box rfl (.cons (.o rfl (by simp)) .nil) (.arr rfl (by simp [noRs, noR]) .nil)) ⟨⟨x1, x2, x3, x4, x5, x6, x7, x8, x9, x10⟩, cc, rfl, hx, by simp; omega, rfl⟩
def lnE (p : Option (List Nt) × Nat) : Int × Bool := match p.1 with | none => ((p.2 : Int), false) | some _ => (0, true)
theorem lnE_bad (k : Nat) : lnE (none, k) = ((k : Int), false) := rfl
theorem lns_spec {t : List UInt8} {ls : List (List UInt8)} {en : Bool} (h : lnsF t = (ls, en)) (h0 : t ≠ []) : (∃ a b, t = a ++ 10 :: b ∧ 10 ∉ a ∧ ∃ ls2, ls = a :: ls2 ∧ lnsF b = (ls2, en)) ∨ (10 ∉ t ∧ ls = [t] ∧ en = false) := by
 rcases cut_ex 10 t with h1 | ⟨a, b, rfl, h1⟩
 ·rw [lns_no h1 h0] at h
  injection h with h2 h3
  exact .inr ⟨h1, h2.symm, h3.symm⟩
 ·rw [lns_cut h1] at h
  injection h with h2 h3
  exact .inl ⟨a, b, rfl, h1, _, h2.symm, by rw [← h3]⟩
set_option maxHeartbeats 1000000 in
theorem rlines_v (t0 : List UInt8) (hl : t0.length ≤ 200000) : ACallsW TabX false Tryz.prog 66 [.c (T t0), .f (.func 67) [.p 0 0 0]] [outB2 0 0, outA 0 []] fun u H => ∃ (out : List Nt) (c : Nat), u = .t [.c (I (lnE (rdL (lnsF t0).2 (lnsF t0).1 0)).1), .c (B (lnE (rdL (lnsF t0).2 (lnsF t0).1 0)).2)] ∧ (∀ r, (rdL (lnsF t0).2 (lnsF t0).1 0).1 = some r → out = r) ∧ out.length ≤ c ∧ out.length ≤ 200001 ∧ H = [outB2 out.length c, outA c out] := by
 obtain ⟨ls, en, hls⟩ : ∃ ls en, lnsF t0 = (ls, en) := ⟨_, _, rfl⟩
 rw [hls]
 simp only
 refine zK2 (X := TabX) false (N := 30) Tryz.func66 rfl rfl (by simp) fun E hE hP hX => ?_
 have hXg : ∀ {F H}, ∀ S ρ a w, R 30 E S ρ F H a w → TabX.X w ρ H := fun {F H} => hX F H
 refine WA ?_
 refine WA ?_
 refine zK (fun m F H => ∃ (k c : Nat) (t : List UInt8) (ls2 : List (List UInt8)) (out : List Nt), m = t.length ∧ t.length + k ≤ t0.length ∧ lnsF t = (ls2, en) ∧ ls2 = ls.drop k ∧ out.length = k ∧ out.length ≤ c ∧ rdI en ls k out ∧ F = [(0, .c (T t)), (1, .f (.func 67) [.p 0 0 0]), (6, .c (I k))] ∧ H = [outB2 out.length c, outA c out]) ?_ ?_
 ·refine zp [some 0, some 1] (fun _ => [(0, .c (T t0)), (1, .f (.func 67) [.p 0 0 0]), (6, .c (I (0 : Nat)))]) (fun _ => [outB2 0 0, outA 0 []]) (by decide) (ZNL hE) ?_ ZCH (fun _ => ⟨_, 0, 0, t0, ls, [], rfl, by omega, hls, rfl, rfl, Nat.le_refl _, rdI_0 en ls, rfl, rfl⟩)
  exact ZCF
 rintro m F H ⟨k, c, t, ls2, out, rfl, htk, hlt, hls2, hok, hco, hin, rfl, rfl⟩
 obtain ⟨qt, hqt⟩ : ∃ q, decide (t ≠ []) = q := ⟨_, rfl⟩
 refine ZR ?_
 refine WX1 ?_
 refine ZA (zZ (b := []) hqt rfl Tryz.underlying9 rfl rfl) ?_
 refine WE ?_
 cases qt with
 | false =>
  have ht : t = [] := Decidable.not_not.1 (of_decide_eq_false hqt)
  subst ht
  rw [lns_nil] at hlt
  injection hlt with g1 g2
  have hkl : ls.length ≤ k := List.drop_eq_nil_iff.1 (by rw [← hls2, g1])
  have hrd : (rdL en ls 0).1 = some out := by
   unfold rdI at hin
   rw [List.drop_eq_nil_of_le hkl] at hin
   rw [hin]
   simp [rdL]
  refine za rfl ?_
  refine ZZ ?_
  refine WA ?_
  unfold lnE
  rw [hrd]
  exact zu (us := [.c (I 0), .c (B true)]) [some 0, some 1] (fun _ => .t [.c (I 0), .c (B true)]) (fun _ => [outB2 out.length c, outA c out]) (.tmp rfl (.tmp rfl .nil)) (by decide) (ZNK rfl) (fun _ => .tL (.cons (.c rfl) (.cons (.c rfl) .nil))) ZCH (fun _ => ⟨out, c, rfl, fun r hr => Option.some.inj hr, hco, by omega, rfl⟩)
 | true =>
  have hne := of_decide_eq_true hqt
  refine zb rfl ?_
  refine ZZ ?_
  have hfin : ∀ (p : rdL en ls 0 = (none, k)) (o2 : List Nt) (c2 : Nat), ∀ r, (rdL en ls 0).1 = some r → o2 = r := fun p o2 c2 r hr => by rw [p] at hr; cases hr
  rcases lns_spec hlt hne with ⟨a, b, rfl, ha, ls3, rfl, hb⟩ | ⟨h10, rfl, rfl⟩
  ·have hs : ls[k]? = some a := by
    have : (ls.drop k)[0]? = some a := by rw [← hls2]; rfl
    rwa [List.getElem?_drop, Nat.add_zero] at this
   have hd3 : ls3 = ls.drop (k + 1) := by
    have := congrArg List.tail hls2
    simpa using this
   have hab : (a ++ 10 :: b).length = a.length + b.length + 1 := by simp; omega
   obtain ⟨qn, hqn⟩ : ∃ q, (rnF a).isSome = q := ⟨_, rfl⟩
   refine WR ?_
   refine zf rfl (zc false (fun _ => cut_yes a b 10 ha (by omega)) rfl .fn rfl (by decide) (by kernel_rfl) rfl (fun _ => C0 rfl) (by simp)) ?_
   rintro _ _ ⟨_, _, _, ⟨rfl, rfl⟩, hF, hH⟩
   (refine NST hF hH ?_; clear hF hH; rintro rfl rfl)
   refine WE ?_
   cases qn with
   | false =>
    have hrn : rnF a = none := by cases h : rnF a with | none => rfl | some y => rw [h] at hqn; cases hqn
    have hbad := rdI_bad hin hs (.inl hrn)
    refine WR ?_
    first | refine ZS ?_ | (refine G1 rfl ?_; refine zf rfl (zJ3 TabX hXg [0, 1] (fun _ => [outB2 out.length c, outA c out]) false (fun _ => readclo_v a (by omega) out c hco (by omega)) rfl (.clo rfl) rfl (by decide) (by kernel_rfl) rfl (fun _ => .cons (.c rfl) (.cons (.p rfl) .nil)) (by decide) ZCH (by simp) (.inr hP)) ?_; rintro F1 H1 ⟨_, _, _, _, ⟨x, c2, rfl, hx, hc2, rfl⟩, hF, hH⟩; rw [hqn] at hF; (refine NSU hF hH ?_; clear hF hH; rintro rfl rfl)) | skip
    refine WE ?_
    refine zb rfl ?_
    refine ZZ ?_
    refine WA ?_
    have hf2 := hfin hbad (out ++ [x]) c2
    rw [hbad] at hf2 ⊢
    rw [lnE_bad]
    exact zu (us := [.c (I (k : Nat)), .c (B false)]) [some 0, some 1] (fun _ => .t [.c (I (k : Nat)), .c (B false)]) (fun _ => [outB2 (out ++ [x]).length c2, outA c2 (out ++ [x])]) (.tmp rfl (.tmp rfl .nil)) (by decide) (ZNK rfl) (fun _ => .tL (.cons (.c rfl) (.cons (.c rfl) .nil))) ZCH (fun _ => ⟨_, c2, rfl, hf2, hc2, by simp; omega, rfl⟩)
   | true =>
    obtain ⟨y, hy⟩ : ∃ y, rnF a = some y := Option.isSome_iff_exists.1 hqn
    refine WR ?_
    first | refine ZS ?_ | (refine G1 rfl ?_; refine zf rfl (zJ3 TabX hXg [0, 1] (fun _ => [outB2 out.length c, outA c out]) false (fun _ => readclo_v a (by omega) out c hco (by omega)) rfl (.clo rfl) rfl (by decide) (by kernel_rfl) rfl (fun _ => .cons (.c rfl) (.cons (.p rfl) .nil)) (by decide) ZCH (by simp) (.inr hP)) ?_; rintro F1 H1 ⟨_, _, _, _, ⟨x, c2, rfl, hx, hc2, rfl⟩, hF, hH⟩; rw [hqn] at hF; (refine NSU hF hH ?_; clear hF hH; rintro rfl rfl)) | skip
    refine WE ?_
    have hxy := hx y hy
    subst hxy
    have hen : ¬ (en = false ∧ k + 1 = ls.length) := fun ⟨e1, e2⟩ => by
     subst e1
     rw [List.drop_eq_nil_of_le (by omega)] at hd3
     subst hd3
     cases b with
     | nil => rw [lns_nil] at hb; injection hb with _ g; cases g
     | cons z b =>
      rcases lns_spec hb (by simp) with ⟨_, _, _, _, _, g, _⟩ | ⟨_, g, _⟩ <;> cases g
    have hnx := rdI_next hin hs hy hen
    refine za rfl ?_
    refine ZZ ?_
    refine WA ?_
    refine WA ?_
    exact zp [some 0, some 1] (fun _ => [(0, .c (T b)), (1, .f (.func 67) [.p 0 0 0]), (6, .c (I (k + 1 : Nat)))]) (fun _ => [outB2 (out ++ [x]).length c2, outA c2 (out ++ [x])]) (by decide) (ZNL hE) ZCF ZCH (fun _ => ⟨b.length, by omega, k + 1, c2, b, ls3, out ++ [x], rfl, by omega, hb, hd3, by simp [hok], hc2, hnx, rfl, rfl⟩)
  ·have hs : ls[k]? = some t := by
    have : (ls.drop k)[0]? = some t := by rw [← hls2]; rfl
    rwa [List.getElem?_drop, Nat.add_zero] at this
   have hk1 : k + 1 = ls.length := by
    have := congrArg List.length hls2
    rw [List.length_drop] at this
    simp at this
    omega
   have hbad := rdI_bad hin hs (.inr ⟨rfl, hk1⟩)
   refine WR ?_
   refine zf rfl (zc false (fun _ => cut_no t 10 h10) rfl .fn rfl (by decide) (by kernel_rfl) rfl (fun _ => C0 rfl) (by simp)) ?_
   rintro _ _ ⟨_, _, _, ⟨rfl, rfl⟩, hF, hH⟩
   (refine NST hF hH ?_; clear hF hH; rintro rfl rfl)
   refine WE ?_
   refine ZR ?_
   refine WE ?_
   refine zb rfl ?_
   refine ZZ ?_
   refine WA ?_
   have hf2 := hfin hbad out c
   rw [hbad] at hf2 ⊢
   rw [lnE_bad]
   exact zu (us := [.c (I (k : Nat)), .c (B false)]) [some 0, some 1] (fun _ => .t [.c (I (k : Nat)), .c (B false)]) (fun _ => [outB2 out.length c, outA c out]) (.tmp rfl (.tmp rfl .nil)) (by decide) (ZNK rfl) (fun _ => .tL (.cons (.c rfl) (.cons (.c rfl) .nil))) ZCH (fun _ => ⟨_, c, rfl, hf2, hco, by omega, rfl⟩)
end Go.Proofs.YtlhbfcfjepbhpaaGreatDoor
-- NEWM
namespace Go.Proofs.YtlhbfcfjepbhpaaGreatDoor
open Go Go.RowKit
set_option maxRecDepth 1000000
theorem rdL_sz {en : Bool} : ∀ {ls : List (List UInt8)} {i : Nat} {r : List Nt}, (∀ s ∈ ls, s.length ≤ 1000000) → (rdL en ls i).1 = some r → (∀ x ∈ r, NtS x) ∧ r.length ≤ ls.length
 | [], _, r, _, h => by
  simp only [rdL, Option.some.injEq] at h
  subst h
  exact ⟨by simp, by simp⟩
 | s :: ls, i, r, hl, h => by
  rw [rdL] at h
  cases hr : rnF s with
  | none => rw [hr] at h; cases h
  | some x =>
   rw [hr] at h
   simp only at h
   split at h
   ·cases h
   ·simp only [Option.map_eq_some_iff] at h
    obtain ⟨r2, h2, rfl⟩ := h
    obtain ⟨h3, h4⟩ := rdL_sz (fun s hs => hl s (List.mem_cons_of_mem _ hs)) h2
    refine ⟨fun y hy => ?_, by simp; omega⟩
    rcases List.mem_cons.1 hy with rfl | hy
    ·exact rn_sz (hl s List.mem_cons_self) hr
    ·exact h3 y hy
theorem lns_sz {t : List UInt8} {ls : List (List UInt8)} {en : Bool} (h : lnsF t = (ls, en)) (hl : t.length ≤ 200000) : ∀ s ∈ ls, s.length ≤ 1000000 := by
 unfold lnsF at h
 split at h
 ·injection h with h1 h2; subst h1; simp
 split at h
 ·injection h with h1 h2; subst h1
  intro s hs
  have h4 := (zs3 (c := 10) _ _ rfl s hs).2.1
  simp at h4; omega
 ·injection h with h1 h2; subst h1
  intro s hs
  have h4 := (zs3 (c := 10) _ _ rfl s hs).2.1
  omega
set_option maxHeartbeats 1000000 in
theorem notesread_v (t : List UInt8) (hl : t.length ≤ 1000000) : ACallsW TabX false Tryz.prog 14 [.c (T t)] [] fun u H => (∃ V, u = .t [.c (.r V (noRs (rdF t).1)), .c (I (rdF t).2.1), .c (I (rdF t).2.2)]) ∧ H = [] := by
 refine zD1 zk2 false (N := 27) Tryz.func14 rfl rfl (by simp) fun E hE hP hX => ?_
 refine WA ?_
 refine WA ?_
 refine zw rfl (fun hlt => ?_) (fun hlt => ?_)
 ·rw [show rdF t = ([], 0, 2) by unfold rdF; rw [if_pos (by omega)]]
  refine WA ?_
  exact zu (us := [.c (.r (.slice none 0 0) []), .c (I 0), .c (I 2)]) [] (fun _ => .t [.c (.r (.slice none 0 0) []), .c (I 0), .c (I 2)]) (fun _ => []) (.tmp rfl (.tmp rfl (.tmp rfl .nil))) (by decide) (ZNK rfl) (fun _ => .tL (.cons (.c rfl) (.cons (.c rfl) (.cons (.c rfl) .nil)))) ZCH (fun _ => ⟨⟨_, rfl⟩, rfl⟩)
 have hlt2 : ¬ 200000 < t.length := by omega
 obtain ⟨ls, en, hls⟩ : ∃ ls en, lnsF t = (ls, en) := ⟨_, _, rfl⟩
 have hsz := lns_sz hls (by omega)
 have hrd : rdF t = rdE (rdL en ls 0) := by unfold rdF; rw [if_neg hlt2, hls]
 obtain ⟨p, hp⟩ : ∃ p, rdL en ls 0 = p := ⟨_, rfl⟩
 have hpe : rdL (lnsF t).2 (lnsF t).1 0 = p := by rw [hls]; exact hp
 rw [hrd, hp]
 clear hrd
 refine ZZ ?_
 refine WA ?_
 refine aw_wk (zp (K := fun F H => F = [(0, .c (T t)), (5, .p 0 0 0)] ∧ H = [outB2 0 0, outA 0 []]) [some 0, none] (fun _ => [(0, .c (T t)), (5, .p 0 0 0)]) (fun _ => [outB2 0 0, outA 0 []]) (by decide) (ZNL hE) ZCF ZCH (fun _ => ⟨rfl, rfl⟩)) ?_
 rintro F H ⟨rfl, rfl⟩
 obtain ⟨q, i⟩ := p
 cases q with
 | none =>
  refine ZZ ?_
  refine WR ?_
  refine zf rfl (zJ3 TabX (hX _ _) [0, 1] (fun _ => [outB2 0 0, outA 0 []]) false (fun _ => rlines_v t (by omega)) rfl .fn rfl (by decide) (by kernel_rfl) rfl (fun _ => .cons (.c rfl) (.cons (.fL (.cons (.p rfl) .nil)) .nil)) (by decide) ZCH (by simp) (.inr hP)) ?_
  rintro F1 H1 ⟨_, _, _, _, ⟨out, co, rfl, hout, hco, hol, rfl⟩, hF, hH⟩
  rw [hpe] at hF
  (refine NSU hF hH ?_; clear hF hH; rintro rfl rfl)
  refine WE ?_
  refine WA ?_
  refine zb rfl ?_
  refine ZZ ?_
  refine WA ?_
  exact zu (us := [.c (.r (.slice none 0 0) []), .c (I (i : Nat)), .c (I 9)]) [] (fun _ => .t [.c (.r (.slice none 0 0) []), .c (I (i : Nat)), .c (I 9)]) (fun _ => []) (.tmp rfl (.tmp rfl (.tmp rfl .nil))) (by decide) (ZNK rfl) (fun _ => .tL (.cons (.c rfl) (.cons (.c rfl) (.cons (.c rfl) .nil)))) ZCH (fun _ => ⟨⟨_, rfl⟩, rfl⟩)
 | some r =>
  obtain ⟨hrs, hrl⟩ := rdL_sz (i := 0) hsz (by rw [hp])
  refine ZZ ?_
  refine WR ?_
  refine zf rfl (zJ3 TabX (hX _ _) [0, 1] (fun _ => [outB2 0 0, outA 0 []]) false (fun _ => rlines_v t (by omega)) rfl .fn rfl (by decide) (by kernel_rfl) rfl (fun _ => .cons (.c rfl) (.cons (.fL (.cons (.p rfl) .nil)) .nil)) (by decide) ZCH (by simp) (.inr hP)) ?_
  rintro F1 H1 ⟨_, _, _, _, ⟨out, co, rfl, hout, hco, hol, rfl⟩, hF, hH⟩
  rw [hpe] at hF
  (refine NSU hF hH ?_; clear hF hH; rintro rfl rfl)
  refine WE ?_
  have hor := hout r (by rw [hpe])
  subst hor
  have hos := hrs
  have eO : (noRs out).length = out.length := by simp
  clear hout
  refine WA ?_
  refine za rfl ?_
  refine ZZ ?_
  refine WR ?_
  refine zf rfl (zc true (fun g => zU2 (g (.o 1 0 out.length co)) out (by omega) hos) rfl .fn rfl (by decide) (by kernel_rfl) rfl (fun _ => .cons (.frz rfl rfl (by rw [List.drop_zero, List.take_of_length_le (by simp)]) (by simp) rfl) .nil) (fun _ _ _ _ ⟨hu, hH⟩ => by rw [hu, hH]; exact ⟨.c (.inl trivial), by simp⟩)) ?_
  rintro _ _ ⟨_, _, _, ⟨rfl, rfl⟩, hF, hH⟩
  (refine NST hF hH ?_; clear hF hH; rintro rfl rfl)
  refine WE ?_
  unfold rdE
  simp only
  generalize hck : chkN out = e
  refine WA ?_
  refine zw rfl (fun h0 => ?_) (fun h0 => ?_)
  ·rw [if_pos h0]
   refine WA ?_
   exact zu (us := [.c (.r (.slice none 0 0) []), .c (I 0), .c (I e)]) [] (fun _ => .t [.c (.r (.slice none 0 0) []), .c (I 0), .c (I e)]) (fun _ => []) (.tmp rfl (.tmp rfl (.tmp rfl .nil))) (by decide) (ZNK rfl) (fun _ => .tL (.cons (.c rfl) (.cons (.c rfl) (.cons (.c rfl) .nil)))) ZCH (fun _ => ⟨⟨_, rfl⟩, rfl⟩)
  ·rw [if_neg h0]
   refine ZZ ?_
   refine WA ?_
   exact zu (us := [.o 1 0 out.length co, .c (I 0), .c (I 0)]) [] (fun g => .t [.c (.r (g (.o 1 0 out.length co)) (noRs out)), .c (I 0), .c (I 0)]) (fun _ => []) (.tmp rfl (.tmp rfl (.tmp rfl .nil))) (by decide) (ZNK rfl) (fun _ => .tL (.cons (.frz rfl rfl (by rw [List.drop_zero, List.take_of_length_le (by simp)]) (by simp) rfl) (.cons (.c rfl) (.cons (.c rfl) .nil)))) ZCH (fun _ => ⟨⟨_, rfl⟩, rfl⟩)
end Go.Proofs.YtlhbfcfjepbhpaaGreatDoor
