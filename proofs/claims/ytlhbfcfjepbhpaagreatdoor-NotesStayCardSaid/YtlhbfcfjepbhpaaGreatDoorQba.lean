/- Grids, by value: covering a cell, the grid of cells. -/
import Derived.Test.YtlhbfcfjepbhpaaGreatDoorQaz
import Derived.Test.YtlhbfcfjepbhpaaGreatDoorQaw
import Derived.Test.YtlhbfcfjepbhpaaGreatDoorQaq
import Derived.Test.YtlhbfcfjepbhpaaGreatDoorQat
set_option linter.unusedSimpArgs false
set_option linter.unusedVariables false
-- NEWM
namespace Go.Proofs.YtlhbfcfjepbhpaaGreatDoor
open Go Go.RowKit
set_option maxRecDepth 100000
abbrev ky (x : Nt) : List UInt8 × Int := (x.st, x.no)
def badO : Option Nt → Nt → Bool
 | none, _ => false
 | some q, x => decide (0 ≤ cmpNt q x)
def chkA : Option Nt → List Nt → Int
 | _, [] => 0
 | p, x :: l => if ntF x ≠ 0 then ntF x else if badO p x = true then 7 else chkA (some x) l
theorem zM3 (p : Option Nt) (x : Nt) (l : List Nt) : chkA p (x :: l) = if ntF x ≠ 0 then ntF x else if badO p x = true then 7 else chkA (some x) l := by cases p <;> rfl
theorem chkA_nil (p : Option Nt) : chkA p [] = 0 := by cases p <;> rfl
def chkN (l : List Nt) : Int := if 2000 < l.length then 2 else if chkA none l ≠ 0 then chkA none l else if (l.map ky).Nodup then 0 else 6
def prv (l : List Nt) (k : Nat) : Option Nt := if k = 0 then none else l[k - 1]?
theorem zX3 {α : Type} {l : List α} {k : Nat} {n : α} (h : l[k]? = some n) : l.drop k = n :: l.drop (k + 1) := by
 obtain ⟨h1, h2⟩ := List.getElem?_eq_some_iff.1 h
 rw [List.drop_eq_getElem_cons h1, h2]
theorem prv_next {l : List Nt} {k : Nat} {x : Nt} (h : l[k]? = some x) : prv l (k + 1) = some x := by unfold prv; rw [if_neg (by omega)]; exact h
theorem zE1 {l : List Nt} {k : Nat} {x : Nt} (h : l[k]? = some x) : (noRs l)[k]? = some (noR x) := by rw [List.getElem?_map, h]; rfl
theorem map_take_at {l : List Nt} {k : Nat} {x : Nt} (h : l[k]? = some x) : (l.take (k + 1)).map ky = (l.take k).map ky ++ [ky x] := by rw [List.take_add_one, h]; simp
theorem rd_lkO {N : Nat} {E : Env} {F : Fm} {H : List OB} {o : Oper} {x ix : Operand} {b ck : Nat} {l : List (Nat × (List UInt8 × Int) × Bool)} {k : List UInt8 × Int} {q : Bool} (hq : (mget l k).getD false = q) (ho : o.op = .lookup 181 x ix false)
    (hx : ev F x = some (.mp b)) (hH : H[b]? = some (mpO encO encB l ck)) (hi : ev F ix = some (encO.x k)) : Rd Tryz.prog N E o F H (.c (B q)) := by
 have := zE3 (N := N) (E := E) (ke := encO) (ve := encB) (k := k) (z := false) keyO ho Tryz.underlying181 (by kernel_rfl) hx hH hi (fun ρ H => encO.den k ρ H)
 rwa [hq] at this
theorem ef_muO {N : Nat} {E : Env} {F : Fm} {H : List OB} {o : Oper} {x ix y : Operand} {b ck : Nat} {l : List (Nat × (List UInt8 × Int) × Bool)} {k : List UInt8 × Int} {z : Bool} (ho : o.op = .mapUpdate 181 x ix y) (hd : o.dst = none)
    (hx : ev F x = some (.mp b)) (hH : H[b]? = some (mpO encO encB l ck)) (hi : ev F ix = some (encO.x k)) (hy : ev F y = some (encB.x z)) : Ef Tryz.prog N E o F H fun F' H' => F' = F ∧ H' = H.set b (mpO encO encB (mset ck k z l) (mclk ck k l)) :=
 zd3 (ke := encO) (ve := encB) (k := k) (z := z) keyO ho hd Tryz.underlying181 hx hH hi (fun ρ H => encO.den k ρ H) hy (fun ρ H => encB.den z ρ H)
set_option maxHeartbeats 2000000 in
theorem zr2 (v : Value) (l : List Nt) (hl : l.length ≤ 1000000) (hs : ∀ x ∈ l, NtS x) : ACalls Tryz.prog 52 [.c (.r v (noRs l))] [] fun u H => u = .c (I (chkN l)) ∧ H = [] := by
 have e1 : (noRs l).length = l.length := by simp
 refine zg (N := 56) Tryz.func52 rfl rfl (by simp) fun E hE => ?_
 refine WA ?_
 refine WA ?_
 refine zq rfl (fun h0 => ?_) (fun h0 => ?_)
 ·refine WA ?_
  exact zf [] _ rfl rfl rfl (by decide) (ZNK rfl) (fun _ => .nil) ⟨by rw [chkN, if_pos (by omega)], rfl⟩
 have e2 : chkN l = if chkA none l ≠ 0 then chkA none l else if (l.map ky).Nodup then 0 else 6 := by rw [chkN, if_neg (by omega)]
 refine ZZ ?_
 refine WA ?_
 refine zC (fun m F H => ∃ (k : Nat), m + k = l.length ∧ chkA (prv l k) (l.drop k) = chkA none l ∧ F = [(0, .c (.r v (noRs l))), (13, .c (.r v (noRs l))), (14, .c (I (noRs l).length)), (15, .c (I k))] ∧ H = []) ?_ ?_
 ·refine zl [] (fun _ => [(0, .c (.r v (noRs l))), (13, .c (.r v (noRs l))), (14, .c (I (noRs l).length)), (15, .c (I (0 : Nat)))]) (fun _ => []) (by decide) (ZNL hE) ZCF (fun _ => .nil) (fun _ => ?_)
  exact ⟨l.length, 0, by omega, rfl, rfl, rfl⟩
 ·rintro m F H ⟨k, hk, hf, rfl, rfl⟩
  refine WA ?_
  refine zq rfl (fun hlt => ?_) (fun hge => ?_)
  ·obtain ⟨x, hx⟩ : ∃ n, l[k]? = some n := ⟨_, List.getElem?_eq_getElem (by omega)⟩
   have hrow0 := zE1 hx
   have hxs := hs x (List.mem_of_getElem? hx)
   rw [zX3 hx, zM3] at hf
   have hpn := prv_next hx
   obtain ⟨st, no, at_, kn, pr, jb, sp, n, of_, ot⟩ := x
   have hrow : (noRs l)[k]? = some [T st, I no, I at_, I kn, T pr, T jb, T sp, I n, T of_, I ot] := hrow0
   refine WA ?_
   refine WR ?_
   refine zh rfl (zc false (fun _ => formed_v ⟨st, no, at_, kn, pr, jb, sp, n, of_, ot⟩ hxs) rfl .fn rfl (by decide) (by kernel_rfl) rfl (fun _ => .cons (.aL (C0 rfl)) .nil) (by simp)) ?_
   rintro _ _ ⟨_, _, _, ⟨rfl, rfl⟩, hF, hH⟩
   (refine NST hF hH ?_; clear hF hH; rintro rfl rfl)
   refine WE ?_
   generalize ntF ⟨st, no, at_, kn, pr, jb, sp, n, of_, ot⟩ = e at hf ⊢
   refine WA ?_
   refine zq rfl (fun h1 => ?_) (fun h1 => ?_)
   ·rw [if_pos h1] at hf
    refine WA ?_
    exact zf [] _ rfl rfl rfl (by decide) (ZNK rfl) (fun _ => .nil) ⟨by rw [e2, ← hf, if_pos h1], rfl⟩
   rw [if_neg h1] at hf
   refine ZZ ?_
   obtain ⟨q, hq⟩ : ∃ q, badO (prv l k) ⟨st, no, at_, kn, pr, jb, sp, n, of_, ot⟩ = q := ⟨_, rfl⟩
   rw [hq] at hf
   refine zM2 (fun F H => ∃ p, F = [(0, .c (.r v (noRs l))), (13, .c (.r v (noRs l))), (14, .c (I (noRs l).length)), (15, .c (I k)), (36, .c (B q))] ∧ H = [.box p]) ?_ ?_ zn4
   ·by_cases hk0 : k = 0
    ·subst hk0
     have hq' : q = false := hq.symm
     subst hq'
     refine ZZ ?_
     refine ze [(0, none), (1, none), (2, none), (3, none), (4, none), (5, none), (6, none), (7, none), (8, none), (9, some []), (10, none), (11, none)] zr (by kernel_rfl) ?_
     refine WP ?_
     first | refine zN2 rfl rfl rfl (by decide) ⟨zk, ?_⟩ | (refine zO2 rfl (zc false (fun _ => zC2 ⟨st, no, at_, kn, pr, jb, sp, n, of_, ot⟩ ⟨st, no, at_, kn, pr, jb, sp, n, of_, ot⟩) rfl .fn rfl (by decide) (by kernel_rfl) rfl (fun _ => .cons (.aL (C0 rfl)) (.cons (.aL (C0 rfl)) .nil)) (by simp)) ?_; rintro _ _ ⟨_, _, _, ⟨rfl, rfl⟩, hF, hH⟩; (refine NST hF hH ?_; clear hF hH; rintro rfl rfl); refine ⟨zk, ?_⟩)
     refine WQ ?_
     all_goals refine zl [some 0] (fun _ => [(0, .c (.r v (noRs l))), (13, .c (.r v (noRs l))), (14, .c (I (noRs l).length)), (15, .c (I (0 : Nat))), (36, .c (B false))]) (fun _ => [.box [.c (T st), .c (I no), .c (I at_), .c (I kn), .c (T pr), .c (T jb), .c (T sp), .c (I n), .c (T of_), .c (I ot)]]) (by decide) (ZNL hE) ZCF ZCH (fun _ => ?_)
     all_goals exact ⟨_, rfl, rfl⟩
    ·obtain ⟨y, hy⟩ : ∃ n, l[k - 1]? = some n := ⟨_, List.getElem?_eq_getElem (by omega)⟩
     have hkp : (0 : Int) < (k : Int) := by omega
     have hpy : prv l k = some y := by unfold prv; rw [if_neg hk0]; exact hy
     rw [hpy] at hq
     have hq' : decide (0 ≤ cmpNt y ⟨st, no, at_, kn, pr, jb, sp, n, of_, ot⟩) = q := hq
     have hrowy0 := zE1 hy
     have hk1 : ((k : Int) - 1) = ((k - 1 : Nat) : Int) := by omega
     obtain ⟨y0, y1, y2, y3, y4, y5, y6, y7, y8, y9⟩ := y
     have hrowy : (noRs l)[k - 1]? = some [T y0, I y1, I y2, I y3, T y4, T y5, T y6, I y7, T y8, I y9] := hrowy0
     refine ZZ ?_
     refine ze [(0, none), (1, none), (2, none), (3, none), (4, none), (5, none), (6, none), (7, none), (8, none), (9, some []), (10, none), (11, none)] zr (by kernel_rfl) ?_
     refine WP ?_
     first | refine zN2 rfl rfl rfl (by decide) ⟨zk, ?_⟩ | (refine zO2 rfl (zc false (fun _ => zC2 ⟨y0, y1, y2, y3, y4, y5, y6, y7, y8, y9⟩ ⟨st, no, at_, kn, pr, jb, sp, n, of_, ot⟩) rfl .fn rfl (by decide) (by kernel_rfl) rfl (fun _ => .cons (.aL (C0 rfl)) (.cons (.aL (C0 rfl)) .nil)) (by simp)) ?_; rintro _ _ ⟨_, _, _, ⟨rfl, rfl⟩, hF, hH⟩; (refine NST hF hH ?_; clear hF hH; rintro rfl rfl); refine ⟨zk, ?_⟩)
     refine WQ ?_
     all_goals refine zl [some 0] (fun _ => [(0, .c (.r v (noRs l))), (13, .c (.r v (noRs l))), (14, .c (I (noRs l).length)), (15, .c (I k)), (36, .c (B q))]) (fun _ => [.box [.c (T st), .c (I no), .c (I at_), .c (I kn), .c (T pr), .c (T jb), .c (T sp), .c (I n), .c (T of_), .c (I ot)]]) (by decide) (ZNL hE) ZCF ZCH (fun _ => ?_)
     all_goals exact ⟨_, rfl, rfl⟩
   rintro F H ⟨p, rfl, rfl⟩
   cases q with
   | true =>
    refine zb rfl ?_
    refine WA ?_
    exact zf [] _ rfl rfl rfl (by decide) (ZNK rfl) (fun _ => .nil) ⟨by rw [e2, ← hf]; rfl, rfl⟩
   | false =>
    refine za rfl ?_
    refine ZZ ?_
    refine WA ?_
    refine zl [] (fun _ => [(0, .c (.r v (noRs l))), (13, .c (.r v (noRs l))), (14, .c (I (noRs l).length)), (15, .c (I (k + 1 : Nat)))]) (fun _ => []) (by decide) (ZNL hE) ZCF (fun _ => .nil) (fun _ => ?_)
    exact ⟨m - 1, by omega, k + 1, by omega, by rw [hpn, ← hf]; rfl, rfl, rfl⟩
  have h0' : chkA none l = 0 := by rw [← hf, List.drop_eq_nil_of_le (by omega), chkA_nil]
  rw [if_neg (by rw [h0']; simp)] at e2
  refine ZZ ?_
  refine ZR ?_
  refine zh rfl (zC1 rfl rfl (by decide)) ?_
  rintro _ _ ⟨rfl, rfl⟩
  refine WE ?_
  refine WA ?_
  refine zC (fun m F H => ∃ (k mk : Nat) (ml : List (Nat × (List UInt8 × Int) × Bool)), m + k = l.length ∧ ((l.take k).map ky).Nodup ∧ (∀ s, (mget ml s).getD false = ((l.take k).map ky).contains s) ∧ F = [(6, .mp 0), (39, .c (.r v (noRs l))), (40, .c (I (noRs l).length)), (41, .c (I k))] ∧ H = [mpO encO encB ml mk]) ?_ ?_
  ·refine zl [some 0] (fun _ => [(6, .mp 0), (39, .c (.r v (noRs l))), (40, .c (I (noRs l).length)), (41, .c (I (0 : Nat)))]) (fun _ => [mpO encO encB [] 0]) (by decide) (ZNL hE) ZCF ZCH (fun _ => ?_)
   exact ⟨l.length, 0, 0, [], by omega, by simp, by simp [mget], rfl, rfl⟩
  ·rintro m F H ⟨k, mk, ml, hk, hd, hm, rfl, rfl⟩
   refine WA ?_
   refine zq rfl (fun hlt => ?_) (fun hge => ?_)
   ·obtain ⟨x, hx⟩ : ∃ n, l[k]? = some n := ⟨_, List.getElem?_eq_getElem (by omega)⟩
    have hrow0 := zE1 hx
    have hmt := map_take_at hx
    obtain ⟨st, no, at_, kn, pr, jb, sp, n, of_, ot⟩ := x
    have hrow : (noRs l)[k]? = some [T st, I no, I at_, I kn, T pr, T jb, T sp, I n, T of_, I ot] := hrow0
    obtain ⟨q, hq⟩ : ∃ q, (mget ml (st, no)).getD false = q := ⟨_, rfl⟩
    have hq2 := hm (st, no)
    rw [hq] at hq2
    refine WA ?_
    refine WA ?_
    refine ZR ?_
    iterate 2 refine WX1 ?_
    refine ZA (rd_lkO (k := (st, no)) (l := ml) (ck := mk) hq rfl rfl rfl rfl) ?_
    refine WE ?_
    cases q with
    | true =>
     refine zb rfl ?_
     refine WA ?_
     refine zf [] _ rfl rfl rfl (by decide) (ZNK rfl) (fun _ => .nil) ⟨?_, rfl⟩
     rw [e2, if_neg]
     intro hn
     rw [← List.take_append_drop (k + 1) l, List.map_append, hmt] at hn
     have h3 := (List.nodup_append.1 (List.nodup_append.1 hn).1).2.2
     have h4 := List.contains_iff_mem.1 hq2.symm
     exact h3 _ h4 _ (List.mem_singleton.2 rfl) rfl
    | false =>
     refine za rfl ?_
     refine ZZ ?_
     refine ZR ?_
     iterate 2 refine WX1 ?_
     refine zh rfl (ef_muO (k := (st, no)) (l := ml) (ck := mk) (z := true) rfl rfl rfl rfl rfl rfl) ?_
     rintro _ _ ⟨rfl, rfl⟩
     refine WE ?_
     refine WA ?_
     refine zl [some 0] (fun _ => [(6, .mp 0), (39, .c (.r v (noRs l))), (40, .c (I (noRs l).length)), (41, .c (I (k + 1 : Nat)))]) (fun _ => [mpO encO encB (mset mk (st, no) true ml) (mclk mk (st, no) ml)]) (by decide) (ZNL hE) ZCF ZCH (fun _ => ?_)
     refine ⟨m - 1, by omega, k + 1, _, _, by omega, ?_, fun s => ?_, rfl, rfl⟩
     ·rw [hmt]
      refine List.nodup_append.2 ⟨hd, by simp, fun a ha b hb e => ?_⟩
      rw [List.mem_singleton] at hb
      subst hb; subst e
      rw [List.contains_iff_mem.2 ha] at hq2; cases hq2
     ·rw [hmt, zg1]
      by_cases h : s = (st, no)
      ·rw [if_pos h, h]; simp
      ·rw [if_neg h, hm, List.contains_eq_mem, List.contains_eq_mem]; simp [h]
   refine ZZ ?_
   refine WA ?_
   refine zf [] _ rfl rfl rfl (by decide) (ZNK rfl) (fun _ => .nil) ⟨?_, rfl⟩
   rw [List.take_of_length_le (by omega)] at hd
   rw [e2, if_pos hd]
end Go.Proofs.YtlhbfcfjepbhpaaGreatDoor
namespace Go.Proofs.YtlhbfcfjepbhpaaGreatDoor
open Go Go.RowKit
set_option maxRecDepth 100000
def nextF (zs : List Int) (a n : Int) : Int := if zs.length = 0 then belowF ((a + 1) * 7919) n else belowF (wrap64 (belowF (zs.getD (a % zs.length).toNat 0) 1073741824 + wrap64 (a / zs.length * wrap64 (7919 + a % zs.length)))) n
theorem next_f (n : Int) (v : Value) (zs : List Int) (a : Int) (hs : StrOk zs) (h0 : 0 ≤ a) (h1 : a ≤ 1000000000) (hn : in64 n) :
    ACalls Tryz.prog 47 [.p 0 0 0, .c (I n)] [strm v zs a] fun u H => ∃ r : Int, u = .c (I r) ∧ H = [strm v zs (a + 1)] ∧ 0 ≤ r ∧ (1 ≤ n → r < n) ∧ r = nextF zs a n := by
 refine zg (N := 64) Tryz.func47 rfl rfl (by simp) fun E hE => ?_
 unfold in64 at hn
 have hl := hs.len
 by_cases he : zs.length = 0
 ·have h00 : zs = [] := List.eq_nil_of_length_eq_zero he
  subst h00
  repeat' (first
   | (with_reducible refine zI ?_) | (with_reducible refine zH ?_) | (with_reducible refine zK ?_) | (with_reducible refine zP ?_) | (with_reducible refine zM ?_) | (with_reducible refine zQ ?_) | (with_reducible refine zO rfl ?_) | (with_reducible refine zL ?_) | (with_reducible refine zu ?_) | (with_reducible refine zn ?_) | (with_reducible refine zJ ?_) | (with_reducible refine zz ?_)
   | refine zb rfl ?_ | refine za rfl ?_ | refine zw rfl (by assumption) ?_ | refine zt rfl (by assumption) ?_ | refine zq rfl (fun _ => ?_) (fun _ => ?_) | refine zp rfl (fun _ => ?_) (fun _ => ?_)
   | (refine zd (id := 3) ?_
      refine WO ?_
      refine zh rfl (zc false (fun _ => below_a _ _) rfl .fn rfl (by decide) (by kernel_rfl) rfl (fun _g => .cons (.c rfl) (.cons (.c rfl) .nil)) (by simp)) ?_
      rintro _ _ ⟨_, _, _, ⟨rfl, rfl⟩, rfl, rfl⟩
      refine WE ?_)
   | (refine ze (id := 4) [(0, none), (1, none), (2, none), (3, none), (4, none), (5, none), (6, none), (7, none), (8, none), (9, none), (10, none), (11, none)] zr (by kernel_rfl) ?_
      refine WQ ?_)
   | (refine ze (id := 5) [(0, none), (1, none), (2, none), (3, none), (4, none), (5, none), (6, none), (7, none), (8, none), (9, none), (10, none), (11, none)] zr (by kernel_rfl) ?_
      refine WQ ?_)
   | (refine zd ?_; refine WE ?_))
  all_goals (refine zf [some 0] _ rfl rfl rfl (by decide) (ZNK rfl) ZCH ?_)
  all_goals (obtain ⟨q1, q2⟩ := zY1 ((a + 1) * 7919) n hn; exact ⟨_, rfl, rfl, q1, q2, rfl⟩)
 ·have hp : 0 < zs.length := by omega
  refine WA ?_
  refine WA ?_
  refine WA ?_
  refine zt rfl (by simpa using he) ?_
  have e1 : (zs.map fun z => [I z]).length = zs.length := by simp
  have hq : ((zs.map fun z => [I z]).length : Int) = zs.length := by rw [e1]
  have hmod : 0 ≤ a % (zs.length : Int) := Int.emod_nonneg _ (by omega)
  have hmod2 : a % (zs.length : Int) < zs.length := Int.emod_lt_of_pos _ (by omega)
  refine ZZ ?_
  refine ze [(0, none), (1, none), (2, none), (3, none), (4, none), (5, none), (6, none), (7, none), (8, none), (9, none), (10, none), (11, none)] zr (by kernel_rfl) ?_
  refine WQ ?_
  refine ZZ ?_
  refine ze [(0, none), (1, none), (2, none), (3, none), (4, none), (5, none), (6, none), (7, none), (8, none), (9, none), (10, none), (11, none)] zr (by kernel_rfl) ?_
  refine WQ ?_
  obtain ⟨i, hi⟩ : ∃ i : Nat, a % (zs.length : Int) = i := ⟨(a % (zs.length : Int)).toNat, by omega⟩
  have hk : i < zs.length := by omega
  obtain ⟨z, hz0⟩ : ∃ z, zs[i]? = some z := ⟨_, List.getElem?_eq_getElem hk⟩
  have hrow : (zs.map fun z => [I z])[i]? = some [I z] := by rw [List.getElem?_map, hz0]; rfl
  refine ZR ?_
  iterate 5 refine WX1 ?_
  refine ZA (zZ2 rfl (KE (t := 22) rfl) rfl rfl (i := i) (by rw [e1, show a + 1 - 1 = a from by omega]; exact hi) hrow rfl) ?_
  refine WO ?_
  refine zh rfl (zc false (fun _ => below_a _ _) rfl .fn rfl (by decide) (by kernel_rfl) rfl (fun _g => .cons (.c rfl) (.cons (.c rfl) .nil)) (by simp)) ?_
  rintro _ _ ⟨_, _, _, ⟨rfl, rfl⟩, rfl, rfl⟩
  refine WO ?_
  refine zh rfl (zc false (fun _ => below_a _ _) rfl .fn rfl (by decide) (by kernel_rfl) rfl (fun _g => .cons (.c rfl) (.cons (.c rfl) .nil)) (by simp)) ?_
  rintro _ _ ⟨_, _, _, ⟨rfl, rfl⟩, rfl, rfl⟩
  refine WE ?_
  all_goals (refine zf [some 0] _ rfl rfl rfl (by decide) (ZNK rfl) ZCH ?_)
  all_goals (refine ⟨_, rfl, rfl, (zY1 _ n hn).1, (zY1 _ n hn).2, ?_⟩)
  all_goals (have hzd : zs.getD (a % (zs.length : Int)).toNat 0 = z := by rw [hi, Int.toNat_natCast, List.getD, hz0]; rfl)
  all_goals (rw [nextF, if_neg he, hzd, e1, show a + 1 - 1 = a from by omega])
theorem flip_f (n : Int) (v : Value) (zs : List Int) (a : Int) (hs : StrOk zs) (h0 : 0 ≤ a) (h1 : a ≤ 1000000000) (hn : in64 n) :
    ACalls Tryz.prog 46 [.p 0 0 0, .c (I n)] [strm v zs a] fun u H => ∃ b : Bool, u = .c (B b) ∧ H = [strm v zs (a + 1)] ∧ b = decide (nextF zs a n = 0) := by
 unfold in64 at hn
 refine zg (N := 9) Tryz.func46 rfl rfl (by simp) fun E hE => ?_
 repeat' (first
  | (with_reducible refine zI ?_) | (with_reducible refine zH ?_) | (with_reducible refine zK ?_) | (with_reducible refine zP ?_) | (with_reducible refine zM ?_) | (with_reducible refine zQ ?_) | (with_reducible refine zO rfl ?_) | (with_reducible refine zL ?_) | (with_reducible refine zu ?_) | (with_reducible refine zn ?_) | (with_reducible refine zJ ?_) | (with_reducible refine zz ?_)
  | refine zb rfl ?_ | refine za rfl ?_ | refine zw rfl (by assumption) ?_ | refine zt rfl (by assumption) ?_ | refine zq rfl (fun _ => ?_) (fun _ => ?_) | refine zp rfl (fun _ => ?_) (fun _ => ?_)
  | (refine zd (id := 1) ?_
     refine WO ?_
     refine zh rfl (zj false (fun _ => next_f _ _ _ _ hs (by omega) (by omega) (by simp only [in64]; omega)) rfl .fn rfl (by decide) (by kernel_rfl) rfl rfl (fun _g => .cons (.p rfl) (.cons (.c rfl) .nil)) (fun _g => .cons (.c rfl) (.cons (.c rfl) .nil)) (by simp)) ?_
     rintro F1 H1 ⟨_, _, _, _, ⟨r, rfl, hq, hr1, hr2, hrv⟩, hF, hH⟩
     injection hq with hq1 hq2; subst hq1; subst hq2
     (refine NST hF hH ?_; clear hF hH; rintro rfl rfl)
     refine WE ?_)
  | (refine zd ?_; refine WE ?_))
 all_goals (refine zf [some 0] _ rfl rfl rfl (by decide) (ZNK rfl) ZCH ?_)
 all_goals exact ⟨_, rfl, rfl, by rw [← hrv]⟩
def rangeF (zs : List Int) (a lo hi : Int) : Int × Int := if hi < lo then (lo, a) else (lo + nextF zs a (hi - lo + 1), a + 1)
theorem range_f (lo hi : Int) (v : Value) (zs : List Int) (a : Int) (hs : StrOk zs) (h0 : 0 ≤ a) (h1 : a ≤ 1000000000) (h2 : -4000000000000000000 ≤ lo) (h3 : lo ≤ 4000000000000000000) (h4 : -4000000000000000000 ≤ hi) (h5 : hi ≤ 4000000000000000000) :
    ACalls Tryz.prog 8 [.p 0 0 0, .c (I lo), .c (I hi)] [strm v zs a] fun u H => ∃ r a', u = .c (I r) ∧ H = [strm v zs a'] ∧ a ≤ a' ∧ a' ≤ a + 1 ∧ lo ≤ r ∧ (lo ≤ hi → r ≤ hi) ∧ (hi < lo → r = lo) ∧ (r, a') = rangeF zs a lo hi := by
 refine zg (N := 19) Tryz.func8 rfl rfl (by simp) fun E hE => ?_
 repeat' (first
  | (with_reducible refine zI ?_) | (with_reducible refine zH ?_) | (with_reducible refine zK ?_) | (with_reducible refine zP ?_) | (with_reducible refine zM ?_) | (with_reducible refine zQ ?_) | (with_reducible refine zO rfl ?_) | (with_reducible refine zL ?_) | (with_reducible refine zu ?_) | (with_reducible refine zn ?_) | (with_reducible refine zJ ?_) | (with_reducible refine zz ?_)
  | refine zb rfl ?_ | refine za rfl ?_ | refine zw rfl (by assumption) ?_ | refine zt rfl (by assumption) ?_ | refine zq rfl (fun _ => ?_) (fun _ => ?_) | refine zp rfl (fun _ => ?_) (fun _ => ?_)
  | (refine zd (id := 3) ?_
     refine WO ?_
     refine zh rfl (zj false (fun _ => next_f _ _ _ _ hs (by omega) (by omega) (by simp only [in64]; omega)) rfl .fn rfl (by decide) (by kernel_rfl) rfl rfl (fun _g => .cons (.p rfl) (.cons (.c rfl) .nil)) (fun _g => .cons (.c rfl) (.cons (.c rfl) .nil)) (by simp)) ?_
     rintro F1 H1 ⟨_, _, _, _, ⟨r, rfl, hq, hr1, hr2, hrv⟩, hF, hH⟩
     injection hq with hq1 hq2; subst hq1; subst hq2
     (refine NST hF hH ?_; clear hF hH; rintro rfl rfl)
     refine WE ?_)
  | (refine zd ?_; refine WE ?_))
 all_goals (refine zf [some 0] _ rfl rfl rfl (by decide) (ZNK rfl) ZCH ?_)
 all_goals (refine ⟨_, _, rfl, rfl, by omega, by omega, by omega, by omega, by omega, ?_⟩)
 all_goals first | (rw [rangeF, if_pos (by omega)]; done) | (rw [rangeF, if_neg (by omega), ← hrv])
def pickF (zs : List Int) (a : Int) (vals : List Int) : Int := vals.getD (nextF zs a vals.length).toNat 0
theorem zW1 (vals : List Int) (q v : Value) (zs : List Int) (a : Int) (hs : StrOk zs) (h0 : 0 ≤ a) (h1 : a ≤ 1000000000) (hv : vals ≠ []) (hl : vals.length ≤ 1000000) :
    ACalls Tryz.prog 27 [.p 0 0 0, .c (.r q (vals.map fun z => [I z]))] [strm v zs a] fun u H => ∃ r, u = .c (I r) ∧ H = [strm v zs (a + 1)] ∧ r ∈ vals ∧ r = pickF zs a vals := by
 have hp : 0 < vals.length := List.length_pos_iff.2 hv
 have e1 : (vals.map fun z => [I z]).length = vals.length := by simp
 refine zg (N := 12) Tryz.func27 rfl rfl (by simp) fun E hE => ?_
 refine WA ?_
 refine WR ?_
 refine zh rfl (zj false (fun _ => next_f _ _ _ _ hs (by omega) (by omega) (by simp only [in64]; omega)) rfl .fn rfl (by decide) (by kernel_rfl) rfl rfl (fun _g => .cons (.p rfl) (.cons (.c rfl) .nil)) (fun _g => .cons (.c rfl) (.cons (.c rfl) .nil)) (by simp)) ?_
 rintro F1 H1 ⟨_, _, _, _, ⟨r, rfl, hq, hr1, hr2, hrv⟩, hF, hH⟩
 injection hq with hq1 hq2; subst hq1; subst hq2
 (refine NST hF hH ?_; clear hF hH; rintro rfl rfl)
 obtain ⟨i, rfl⟩ : ∃ i : Nat, r = i := ⟨r.toNat, by omega⟩
 have hk : i < vals.length := by have := hr2 (by rw [e1]; omega); rw [e1] at this; omega
 obtain ⟨z, hz0⟩ : ∃ z, vals[i]? = some z := ⟨_, List.getElem?_eq_getElem hk⟩
 have hrow : (vals.map fun z => [I z])[i]? = some [I z] := by rw [List.getElem?_map, hz0]; rfl
 refine ZA (zZ2 rfl (KE (t := 22) rfl) rfl rfl (i := i) rfl hrow rfl) ?_
 refine WE ?_
 refine zf [some 0] _ rfl rfl rfl (by decide) (ZNK rfl) ZCH ?_
 refine ⟨_, rfl, rfl, List.mem_of_getElem? hz0, ?_⟩
 rw [e1] at hrv
 rw [pickF, ← hrv, Int.toNat_natCast, List.getD, hz0]; rfl
def oddF (zs : List Int) (a lo hi : Int) : Int × Int := if nextF zs a 12 = 0 then (pickF zs (a + 1) [lo - 1, hi + 1, lo, hi, -1099511627776, 1099511627776], a + 1 + 1) else rangeF zs (a + 1) lo hi
theorem odd_f (lo hi : Int) (v : Value) (zs : List Int) (a : Int) (hs : StrOk zs) (h0 : 0 ≤ a) (h1 : a ≤ 900000000) (h2 : -4000000000000000000 ≤ lo) (h3 : lo ≤ 4000000000000000000) (h4 : -4000000000000000000 ≤ hi) (h5 : hi ≤ 4000000000000000000) :
    ACalls Tryz.prog 48 [.p 0 0 0, .c (I lo), .c (I hi)] [strm v zs a] fun u H => ∃ r a', u = .c (I r) ∧ H = [strm v zs a'] ∧ a ≤ a' ∧ a' ≤ a + 2 ∧ in64 r ∧ (r, a') = oddF zs a lo hi := by
 refine zg (N := 22) Tryz.func48 rfl rfl (by simp) fun E hE => ?_
 refine WA ?_
 refine WR ?_
 refine zh rfl (zj false (fun _ => flip_f 12 _ _ _ hs (by omega) (by omega) (by simp only [in64]; omega)) rfl .fn rfl (by decide) (by kernel_rfl) rfl rfl (fun _g => .cons (.p rfl) (.cons (.c rfl) .nil)) (fun _g => .cons (.c rfl) (.cons (.c rfl) .nil)) (by simp)) ?_
 rintro F1 H1 ⟨_, _, _, _, ⟨bb, rfl, hq, hvbb⟩, hF, hH⟩
 injection hq with hq1 hq2; subst hq1; subst hq2
 (refine NST hF hH ?_; clear hF hH; rintro rfl rfl)
 refine WE ?_
 refine zp rfl (fun hb => ?_) (fun hb => ?_)
 ·rw [hb] at hvbb
  have hz := of_decide_eq_true hvbb.symm
  refine WR ?_
  refine zh rfl (zj true (fun _ => zW1 [lo - 1, hi + 1, lo, hi, -1099511627776, 1099511627776] _ _ _ _ hs (by omega) (by omega) (by simp) (by simp)) rfl .fn rfl (by decide) (by kernel_rfl) rfl rfl (fun _g => .cons (.p rfl) (.cons (.frz rfl rfl rfl rfl rfl) .nil)) (fun _g => .cons (.c rfl) (.cons (.c rfl) .nil)) (fun _ _ _ _ ⟨_, hu, hH, _⟩ => by rw [hu, hH]; exact ⟨.c (.inl trivial), zm (.inr ⟨0, _, rfl, by simp⟩)⟩)) ?_
  rintro F1 H1 ⟨_, _, _, _, ⟨rr, rfl, hq, hrmrr, hvrr⟩, hF, hH⟩
  injection hq with hq1 hq2; subst hq1; subst hq2
  (refine NST hF hH ?_; clear hF hH; rintro rfl rfl)
  refine WE ?_
  exact zf [some 0] _ rfl rfl rfl (by decide) (ZNK rfl) ZCH ⟨_, _, rfl, rfl, by omega, by omega, by simp only [List.mem_cons, List.not_mem_nil, or_false] at hrmrr; simp only [in64]; omega, by rw [oddF, if_pos hz, ← hvrr]⟩
 ·rw [hb] at hvbb
  have hz := of_decide_eq_false hvbb.symm
  refine ZZ ?_
  refine WR ?_
  refine zh rfl (zj false (fun _ => range_f lo hi _ _ _ hs (by omega) (by omega) (by omega) (by omega) (by omega) (by omega)) rfl .fn rfl (by decide) (by kernel_rfl) rfl rfl (fun _g => .cons (.p rfl) (.cons (.c rfl) (.cons (.c rfl) .nil))) (fun _g => .cons (.c rfl) (.cons (.c rfl) .nil)) (by simp)) ?_
  rintro F1 H1 ⟨_, _, _, _, ⟨rr, ar, rfl, hq, hr3, hr4, hr1, hr2, hr5, hrv⟩, hF, hH⟩
  injection hq with hq1 hq2; subst hq1; subst hq2
  (refine NST hF hH ?_; clear hF hH; rintro rfl rfl)
  have h64r : in64 rr := by simp only [in64]; omega
  refine WE ?_
  exact zf [some 0] _ rfl rfl rfl (by decide) (ZNK rfl) ZCH ⟨_, _, rfl, rfl, by omega, by omega, h64r, by rw [oddF, if_neg hz, ← hrv]⟩
end Go.Proofs.YtlhbfcfjepbhpaaGreatDoor
namespace Go.Proofs.YtlhbfcfjepbhpaaGreatDoor
open Go Go.RowKit
def insJ : Nat → List Nt → List Nt
 | 0, l => l
 | j + 1, l => match l[j + 1]?, l[j]? with
  | some x, some y => if cmpNt x y < 0 then insJ j ((l.set (j + 1) y).set j x) else l
  | _, _ => l
def insK : Nat → List Nt → List Nt
 | 0, l => l
 | k + 1, l => insJ (k + 1) (insK k l)
def insF (l : List Nt) : List Nt := insK (l.length - 1) l
theorem insJ_next {j : Nat} {l : List Nt} {x y : Nt} (hx : l[j + 1]? = some x) (hy : l[j]? = some y) : insJ (j + 1) l = if cmpNt x y < 0 then insJ j ((l.set (j + 1) y).set j x) else l := by rw [insJ, hx, hy]
theorem insJ_len : ∀ (j : Nat) (l : List Nt), (insJ j l).length = l.length
 | 0, l => rfl
 | j + 1, l => by
  rw [insJ]
  split
  ·split
   ·rw [insJ_len j]; simp
   ·rfl
  ·rfl
theorem insJ_mem : ∀ (j : Nat) (l : List Nt) (z : Nt), z ∈ insJ j l → z ∈ l
 | 0, l, z, h => h
 | j + 1, l, z, h => by
  rw [insJ] at h
  split at h
  ·rename_i x y hx hy
   split at h
   ·have h2 := insJ_mem j _ z h
    rcases List.mem_or_eq_of_mem_set h2 with h3 | rfl
    ·rcases List.mem_or_eq_of_mem_set h3 with h4 | rfl
     ·exact h4
     ·exact List.mem_of_getElem? hy
    ·exact List.mem_of_getElem? hx
   ·exact h
  ·exact h
theorem insK_len : ∀ (k : Nat) (l : List Nt), (insK k l).length = l.length
 | 0, l => rfl
 | k + 1, l => by rw [insK, insJ_len, insK_len k]
theorem insK_mem : ∀ (k : Nat) (l : List Nt) (z : Nt), z ∈ insK k l → z ∈ l
 | 0, l, z, h => h
 | k + 1, l, z, h => insK_mem k l z (insJ_mem _ _ _ h)
theorem insF_len (l : List Nt) : (insF l).length = l.length := insK_len _ l
theorem insF_mem (l : List Nt) (z : Nt) (h : z ∈ insF l) : z ∈ l := insK_mem _ l z h
def someF (zs : List Int) (a : Int) (vals : List (List UInt8)) : List UInt8 := vals.getD (nextF zs a vals.length).toNat []
def updF (f : List UInt8 → Int) (k : List UInt8) (z : Int) : List UInt8 → Int := fun s => if s = k then z else f s
structure NG where
 at_ : Int
 no : List UInt8 → Int
 ly : List UInt8 → Int
 a : Int
def kindF (zs : List Int) (x : Nt) (ly : List UInt8 → Int) (a : Int) : Nt × (List UInt8 → Int) × Int :=
 if x.kd = 1 then ({ x with jb := someF zs a [[106], [107], [108], [109]], n := pickF zs (a + 1) [1, 2, 2, 3] }, updF ly x.pr 0, a + 1 + 1)
 else if x.kd = 2 then
  if nextF zs a 6 = 0 then ({ x with n := (rangeF zs (a + 1) 1 4).1 }, updF ly x.pr (ly x.pr + 1), (rangeF zs (a + 1) 1 4).2)
  else ({ x with n := ly x.pr + 1 }, updF ly x.pr (ly x.pr + 1), a + 1)
 else if x.kd = 5 then ({ x with sp := someF zs a [[115], [116]], n := pickF zs (a + 1) [100, 50] }, ly, a + 1 + 1)
 else if x.kd = 6 then ({ x with n := pickF zs a [10, 30, 60] }, ly, a + 1)
 else if x.kd = 7 then ({ x with pr := [], of_ := someF zs a [[97], [98]], ot := (rangeF zs (a + 1) 1 8).1 }, ly, (rangeF zs (a + 1) 1 8).2)
 else (x, ly, a)
def oddNF (zs : List Int) (x : Nt) (a : Int) : Nt × Int :=
 if nextF zs a 90 = 0 then
  if nextF zs (a + 1) 4 = 0 then ({ x with st := someF zs (a + 1 + 1) [[], x.st], no := (oddF zs (a + 1 + 1 + 1) 1 9).1, at_ := (oddF zs (oddF zs (a + 1 + 1 + 1) 1 9).2 0 60).1 }, (oddF zs (oddF zs (a + 1 + 1 + 1) 1 9).2 0 60).2)
  else if nextF zs (a + 1) 4 = 1 then ({ x with kd := (oddF zs (a + 1 + 1) 1 7).1, pr := someF zs (oddF zs (a + 1 + 1) 1 7).2 [[], [65], x.pr] }, (oddF zs (a + 1 + 1) 1 7).2 + 1)
  else if nextF zs (a + 1) 4 = 2 then ({ x with jb := someF zs (a + 1 + 1) [[], [106]], sp := someF zs (a + 1 + 1 + 1) [[], [115], [66]] }, a + 1 + 1 + 1 + 1)
  else ({ x with n := (oddF zs (a + 1 + 1) 0 10).1, ot := pickF zs (oddF zs (a + 1 + 1) 0 10).2 [0, 1, -1] }, (oddF zs (a + 1 + 1) 0 10).2 + 1)
 else (x, a + 1)
def firstF (zs : List Int) (g : NG) : Nt := ⟨someF zs (g.a + 1) [[97], [97], [98]], g.no (someF zs (g.a + 1) [[97], [97], [98]]) + 1, g.at_ + pickF zs g.a [0, 1, 1, 3, 10], pickF zs (g.a + 1 + 1) [1, 2, 2, 2, 2, 3, 3, 4, 5, 6, 6, 7], someF zs (g.a + 1 + 1 + 1) [[112], [112], [113]], [], [], 0, [], 0⟩
def noteF (zs : List Int) (g : NG) : Nt × NG :=
 ((oddNF zs (kindF zs (firstF zs g) g.ly (g.a + 1 + 1 + 1 + 1)).1 (kindF zs (firstF zs g) g.ly (g.a + 1 + 1 + 1 + 1)).2.2).1,
  ⟨g.at_ + pickF zs g.a [0, 1, 1, 3, 10], updF g.no (firstF zs g).st (g.no (firstF zs g).st + 1), (kindF zs (firstF zs g) g.ly (g.a + 1 + 1 + 1 + 1)).2.1, (oddNF zs (kindF zs (firstF zs g) g.ly (g.a + 1 + 1 + 1 + 1)).1 (kindF zs (firstF zs g) g.ly (g.a + 1 + 1 + 1 + 1)).2.2).2⟩)
def ng0 (a : Int) : NG := ⟨0, fun _ => 0, fun _ => 0, a⟩
def gensF (zs : List Int) (a : Int) : Nat → List Nt × NG
 | 0 => ([], ng0 a)
 | k + 1 => ((gensF zs a k).1 ++ [(noteF zs (gensF zs a k).2).1], (noteF zs (gensF zs a k).2).2)
def notesF (zs : List Int) (a : Int) (k : Nat) : List Nt := insF (gensF zs a k).1
theorem nextF_bd {zs : List Int} {a n : Int} (h1 : 1 ≤ n) (h2 : n ≤ 1000000) : 0 ≤ nextF zs a n ∧ nextF zs a n < n := by
 unfold nextF
 split <;> exact ⟨(zY1 _ n (by simp only [in64]; omega)).1, (zY1 _ n (by simp only [in64]; omega)).2 h1⟩
theorem pickF_mem {zs : List Int} {a : Int} {vals : List Int} (h : vals ≠ []) (hl : vals.length ≤ 1000000) : pickF zs a vals ∈ vals := by
 have h0 := List.length_pos_iff.2 h
 have h1 := @nextF_bd zs a vals.length (by omega) (by omega)
 have h2 : (nextF zs a vals.length).toNat < vals.length := by omega
 unfold pickF
 rw [List.getD, List.getElem?_eq_getElem h2]
 exact List.getElem_mem h2
theorem rangeF_bd {zs : List Int} {a lo hi : Int} (h : lo ≤ hi) (h2 : hi - lo ≤ 100000) : lo ≤ (rangeF zs a lo hi).1 ∧ (rangeF zs a lo hi).1 ≤ hi := by
 unfold rangeF
 rw [if_neg (by omega)]
 have := @nextF_bd zs a (hi - lo + 1) (by omega) (by omega)
 simp only
 omega
theorem oddF_bd {zs : List Int} {a lo hi : Int} (h : lo ≤ hi) (h2 : -1000 ≤ lo) (h3 : hi ≤ 1000) : -1100000000000 ≤ (oddF zs a lo hi).1 ∧ (oddF zs a lo hi).1 ≤ 1100000000000 := by
 unfold oddF
 split
 ·have := @pickF_mem zs (a + 1) [lo - 1, hi + 1, lo, hi, -1099511627776, 1099511627776] (by simp) (by simp)
  simp only [List.mem_cons, List.not_mem_nil, or_false] at this
  simp only
  omega
 ·have := @rangeF_bd zs (a + 1) lo hi h (by omega)
  omega
structure NtB (x : Nt) : Prop where
 st : x.st.length ≤ 1
 pr : x.pr.length ≤ 1
 jb : x.jb.length ≤ 1
 sp : x.sp.length ≤ 1
 of_ : x.of_.length ≤ 1
 no : -2000000000000 ≤ x.no ∧ x.no ≤ 2000000000000
 at_ : -2000000000000 ≤ x.at_ ∧ x.at_ ≤ 2000000000000
 kd : -2000000000000 ≤ x.kd ∧ x.kd ≤ 2000000000000
 n : -2000000000000 ≤ x.n ∧ x.n ≤ 2000000000000
 ot : -2000000000000 ≤ x.ot ∧ x.ot ≤ 2000000000000
end Go.Proofs.YtlhbfcfjepbhpaaGreatDoor
namespace Go.Proofs.YtlhbfcfjepbhpaaGreatDoor
def mnL : List Int → Int
 | [] => 0
 | [a] => a
 | a :: b :: l => min a (mnL (b :: l))
def mxL : List Int → Int
 | [] => 0
 | [a] => a
 | a :: b :: l => max a (mxL (b :: l))
abbrev Spot := Int × Int
abbrev cols (L : List Spot) : List Int := L.map Prod.fst
abbrev rws (L : List Spot) : List Int := L.map Prod.snd
def x0 (L : List Spot) : Int := mnL (cols L)
def x1 (L : List Spot) : Int := mxL (cols L)
def y0 (L : List Spot) : Int := mnL (rws L)
def y1 (L : List Spot) : Int := mxL (rws L)
end Go.Proofs.YtlhbfcfjepbhpaaGreatDoor
namespace Go.Proofs.YtlhbfcfjepbhpaaGreatDoor
end Go.Proofs.YtlhbfcfjepbhpaaGreatDoor
namespace Go.Proofs.YtlhbfcfjepbhpaaGreatDoor
structure Grd where
 st : Int
 x : Int
 y : Int
 w : Nat
 h : Nat
 on : List Bool
end Go.Proofs.YtlhbfcfjepbhpaaGreatDoor
-- NEWM
namespace Go.Proofs.YtlhbfcfjepbhpaaGreatDoor
open Go Go.RowKit
set_option maxRecDepth 100000
structure GOk (g : Grd) : Prop where
 len : g.on.length = g.w * g.h
 w : g.w ≤ 1000
 h : g.h ≤ 1000
 x : -10000000 ≤ g.x ∧ g.x ≤ 10000000
 y : -10000000 ≤ g.y ∧ g.y ≤ 10000000
theorem GOk.n {g : Grd} (h : GOk g) : g.on.length ≤ 1000000 := by
 rw [h.len]
 exact Nat.le_trans (Nat.mul_le_mul h.w h.h) (by decide)
theorem aret_p {fn : Func} {nl q b k j b' : Nat} {F : Fm} {H : List OB} {Qr : AV → List OB → Prop} (m : List (Option Nat)) (H' : (AV → Value) → List OB) (hr : fn.results = #[.tmp q]) (h : F.lookup q = some (.p b k j)) (hb : m[b']? = some (some b)) (hm : (m.filterMap id).Nodup) (hl : ∀ i, i < nl → m[i]? = some (some i)) (hH : ∀ g, CvH g m H true m (H' g)) (hq : ∀ g, Qr (.p b' k j) (H' g)) : ARet Tryz.prog fn nl Qr .ret F H :=
 zZ m (fun _ => .p b' k j) H' (by rw [hr]; exact .tmp h .nil) hm hl (fun _ => .p hb) hH hq
end Go.Proofs.YtlhbfcfjepbhpaaGreatDoor
-- NEWM
namespace Go.Proofs.YtlhbfcfjepbhpaaGreatDoor
open Go Go.RowKit
set_option maxRecDepth 100000
abbrev tR (l : List (List UInt8)) : List (List CV) := l.map fun r => [T r]
end Go.Proofs.YtlhbfcfjepbhpaaGreatDoor
