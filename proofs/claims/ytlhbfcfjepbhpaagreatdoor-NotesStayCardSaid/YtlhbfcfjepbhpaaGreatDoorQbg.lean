/- The logic over values: blocks are taken out of a pool, and put into one. -/
import Derived.Test.YtlhbfcfjepbhpaaGreatDoorQbf
import Derived.Test.YtlhbfcfjepbhpaaGreatDoorQat
set_option linter.unusedSimpArgs false
set_option linter.unusedVariables false
-- NEWM
namespace Go.Proofs.YtlhbfcfjepbhpaaGreatDoor
open Go Go.RowKit
set_option maxRecDepth 100000
theorem rd_lkNl {N : Nat} {E : Env} {F : Fm} {H : List OB} {o : Oper} {x ix : Operand} {b ck : Nat} {l : List (Nat × (List UInt8 × Int) × Nt)} {k : List UInt8 × Int} {o0 o4 o5 o6 o8 : List UInt8} {o1 o2 o3 o7 o9 : Int} {q : Bool} (hq : (mget l k).getD zN = ⟨o0, o1, o2, o3, o4, o5, o6, o7, o8, o9⟩) (hq2 : (mget l k).isSome = q) (ho : o.op = .lookup 109 x ix true)
    (hx : ev F x = some (.mp b)) (hH : H[b]? = some (mpO encO encN l ck)) (hi : ev F ix = some (encO.x k)) : Rd Tryz.prog N E o F H (.t [.a [.c (T o0), .c (I o1), .c (I o2), .c (I o3), .c (T o4), .c (T o5), .c (T o6), .c (I o7), .c (T o8), .c (I o9)], .c (B q)]) := rd_lkN hq hq2 ho hx hH hi
theorem ef_muNl {N : Nat} {E : Env} {F : Fm} {H : List OB} {o : Oper} {x ix y : Operand} {b ck : Nat} {l : List (Nat × (List UInt8 × Int) × Nt)} {k : List UInt8 × Int} {o0 o4 o5 o6 o8 : List UInt8} {o1 o2 o3 o7 o9 : Int} (ho : o.op = .mapUpdate 109 x ix y) (hd : o.dst = none)
    (hx : ev F x = some (.mp b)) (hH : H[b]? = some (mpO encO encN l ck)) (hi : ev F ix = some (encO.x k)) (hy : ev F y = some (.a [.c (T o0), .c (I o1), .c (I o2), .c (I o3), .c (T o4), .c (T o5), .c (T o6), .c (I o7), .c (T o8), .c (I o9)])) : Ef Tryz.prog N E o F H fun F' H' => F' = F ∧ H' = H.set b (mpO encO encN (mset ck k ⟨o0, o1, o2, o3, o4, o5, o6, o7, o8, o9⟩ l) (mclk ck k l)) := ef_muN ho hd hx hH hi hy
theorem fndN_ky (out : List Nt) (x : Nt) : fndN out x = out.find? fun o => decide (ky o = ky x) := by
 unfold fndN
 congr 1
 funext o
 rw [Bool.eq_iff_iff, snB_ky, decide_eq_true_eq]
theorem noFlat {K : CV → Prop} (l : List Nt) : ∀ row ∈ noRs l, ∀ u ∈ row, u.flat ∨ K u := fun row hr u hu => by
 obtain ⟨x, _, rfl⟩ := List.mem_map.1 hr
 simp only [noR, List.mem_cons, List.not_mem_nil, or_false] at hu
 rcases hu with rfl | rfl | rfl | rfl | rfl | rfl | rfl | rfl | rfl | rfl <;> exact .inl trivial
def mgE (a b : List Nt) : Int := if chkN a ≠ 0 then chkN a else if chkN b ≠ 0 then chkN b else mrE (mrg a b)
theorem chkN_nodup {a : List Nt} (h : chkN a = 0) : (a.map ky).Nodup ∧ a.length ≤ 2000 := by
 unfold chkN at h
 split at h
 ·cases h
 split at h
 ·rename_i h1; exact absurd h h1
 split at h
 ·rename_i h1; exact ⟨h1, by omega⟩
 ·cases h
set_option maxHeartbeats 4000000 in
theorem merge_v (va vb : Value) (a b : List Nt) (ha : a.length ≤ 400000) (hb : b.length ≤ 400000) (has : ∀ x ∈ a, NtS x) (hbs : ∀ x ∈ b, NtS x) : ACalls Tryz.prog 18 [.c (.r va (noRs a)), .c (.r vb (noRs b))] [] fun u H => ∃ (e : Int) (r : List Nt) (c : Nat), e = mgE a b ∧ (e = 0 → ∃ out, mrg a b = some out ∧ r.Perm out ∧ r.Pairwise fun x y => ¬ cmpNt y x < 0) ∧ (e ≠ 0 → r = []) ∧ r.length ≤ c ∧ u = .t [.o 0 0 r.length c, .c (I e)] ∧ H = [.arr 39 10 c (noRs r)] := by
 have e1 : (noRs a).length = a.length := by simp
 have e2 : (noRs b).length = b.length := by simp
 have hcat : catR [(va, noRs a), (vb, noRs b)] = noRs (a ++ b) := by simp [catR]
 have hclen : (catR [(va, noRs a), (vb, noRs b)]).length ≤ 1000000 := by rw [hcat]; simp; omega
 have hokc : ∀ p ∈ [(va, noRs a), (vb, noRs b)], OkR 10 p.2 := fun p hp => by
  simp only [List.mem_cons, List.not_mem_nil, or_false] at hp
  rcases hp with rfl | rfl
  ·exact okNo a
  ·exact okNo b
 have hfail : ∀ e : Int, e = mgE a b → e ≠ 0 → ∃ (e' : Int) (r : List Nt) (c : Nat), e' = mgE a b ∧ (e' = 0 → ∃ out, mrg a b = some out ∧ r.Perm out ∧ r.Pairwise fun x y => ¬ cmpNt y x < 0) ∧ (e' ≠ 0 → r = []) ∧ r.length ≤ c ∧ (AV.t [.o 0 0 0 0, .c (I e)]) = .t [.o 0 0 r.length c, .c (I e')] ∧ [OB.arr 39 10 0 []] = [.arr 39 10 c (noRs r)] := fun e h1 h2 => ⟨e, [], 0, h1, fun h => absurd h h2, fun _ => rfl, Nat.le_refl _, rfl, rfl⟩
 refine zg (N := 72) Tryz.func18 rfl rfl (by simp) fun E hE => ?_
 refine WA ?_
 refine WA ?_
 refine zC (fun m F H => ∃ (k : Nat), m + k = 2 ∧ (1 ≤ k → chkN a = 0) ∧ (2 ≤ k → chkN b = 0) ∧ F = [(0, .c (.r va (noRs a))), (1, .c (.r vb (noRs b))), (4, .c (.r (.slice none 0 0) [])), (5, .c (I 0)), (18, .o 0 0 2 2), (19, .c (I 2)), (20, .c (I k))] ∧ H = [.arr 26 1 2 [[.r va (noRs a)], [.r vb (noRs b)]]]) ?_ ?_
 ·refine zl [some 0] (fun _ => [(0, .c (.r va (noRs a))), (1, .c (.r vb (noRs b))), (4, .c (.r (.slice none 0 0) [])), (5, .c (I 0)), (18, .o 0 0 2 2), (19, .c (I 2)), (20, .c (I (0 : Nat)))]) (fun _ => [.arr 26 1 2 [[.r va (noRs a)], [.r vb (noRs b)]]]) (by decide) (ZNL hE) ZCF ZCH (fun _ => ?_)
  exact ⟨2, 0, by omega, fun h => absurd h (by omega), fun h => absurd h (by omega), rfl, rfl⟩
 rintro m F H ⟨k, hk, hka, hkb, rfl, rfl⟩
 refine WA ?_
 refine zq rfl (fun hlt => ?_) (fun hge => ?_)
 ·have hk2 : k = 0 ∨ k = 1 := by omega
  rcases hk2 with rfl | rfl
  ·have hra : ([[CV.r va (noRs a)], [CV.r vb (noRs b)]] : List (List CV))[0 + 0]? = some [.r va (noRs a)] := rfl
   refine WA ?_
   refine WR ?_
   refine zh rfl (zc false (fun _ => zr2 va a (by omega) has) rfl .fn rfl (by decide) (by kernel_rfl) rfl (fun _ => C0 rfl) (by simp)) ?_
   rintro _ _ ⟨_, _, _, ⟨rfl, rfl⟩, hF, hH⟩
   (refine NST hF hH ?_; clear hF hH; rintro rfl rfl)
   refine WE ?_
   refine WA ?_
   refine zq rfl (fun h1 => ?_) (fun h1 => ?_)
   ·refine WA ?_
    exact zZ (us := [.c (.r (.slice none 0 0) []), .c (I (chkN a))]) [none] (fun _ => .t [.o 0 0 0 0, .c (I (chkN a))]) (fun _ => [.arr 39 10 0 []]) (.tmp rfl (.tmp rfl .nil)) (by decide) (ZNK rfl) (fun _ => .tL (.cons (.nil rfl) (.cons (.c rfl) .nil))) ZCH (fun _ => hfail _ (by rw [mgE, if_pos h1]) h1)
   ·refine ZZ ?_
    refine WA ?_
    refine zl [some 0] (fun _ => [(0, .c (.r va (noRs a))), (1, .c (.r vb (noRs b))), (4, .c (.r (.slice none 0 0) [])), (5, .c (I 0)), (18, .o 0 0 2 2), (19, .c (I 2)), (20, .c (I (1 : Nat)))]) (fun _ => [.arr 26 1 2 [[.r va (noRs a)], [.r vb (noRs b)]]]) (by decide) (ZNL hE) ZCF ZCH (fun _ => ?_)
    exact ⟨1, by omega, 1, by omega, fun _ => by omega, fun h => absurd h (by omega), rfl, rfl⟩
  ·have ha0 := hka (Nat.le_refl _)
   have hra : ([[CV.r va (noRs a)], [CV.r vb (noRs b)]] : List (List CV))[0 + 1]? = some [.r vb (noRs b)] := rfl
   refine WA ?_
   refine WR ?_
   refine zh rfl (zc false (fun _ => zr2 vb b (by omega) hbs) rfl .fn rfl (by decide) (by kernel_rfl) rfl (fun _ => C0 rfl) (by simp)) ?_
   rintro _ _ ⟨_, _, _, ⟨rfl, rfl⟩, hF, hH⟩
   (refine NST hF hH ?_; clear hF hH; rintro rfl rfl)
   refine WE ?_
   refine WA ?_
   refine zq rfl (fun h1 => ?_) (fun h1 => ?_)
   ·refine WA ?_
    exact zZ (us := [.c (.r (.slice none 0 0) []), .c (I (chkN b))]) [none] (fun _ => .t [.o 0 0 0 0, .c (I (chkN b))]) (fun _ => [.arr 39 10 0 []]) (.tmp rfl (.tmp rfl .nil)) (by decide) (ZNK rfl) (fun _ => .tL (.cons (.nil rfl) (.cons (.c rfl) .nil))) ZCH (fun _ => hfail _ (by rw [mgE, if_neg (by rw [ha0]; simp), if_pos h1]) h1)
   ·refine ZZ ?_
    refine WA ?_
    refine zl [some 0] (fun _ => [(0, .c (.r va (noRs a))), (1, .c (.r vb (noRs b))), (4, .c (.r (.slice none 0 0) [])), (5, .c (I 0)), (18, .o 0 0 2 2), (19, .c (I 2)), (20, .c (I (2 : Nat)))]) (fun _ => [.arr 26 1 2 [[.r va (noRs a)], [.r vb (noRs b)]]]) (by decide) (ZNL hE) ZCF ZCH (fun _ => ?_)
    exact ⟨0, by omega, 2, by omega, fun _ => ha0, fun _ => by omega, rfl, rfl⟩
 have ha0 := hka (by omega)
 have hb0 := hkb (by omega)
 have hE0 : mgE a b = mrE (mrg a b) := by rw [mgE, if_neg (by rw [ha0]; simp), if_neg (by rw [hb0]; simp)]
 have hLm : mrg [] (a ++ b) = mrg a b := by rw [mrg_pre a b [] (by simpa using (chkN_nodup ha0).1)]; rfl
 refine ZZ ?_
 refine ZR ?_
 refine zh rfl (zC1 rfl rfl (by decide)) ?_
 rintro _ _ ⟨rfl, rfl⟩
 refine WE ?_
 refine WA ?_
 refine WR ?_
 refine zh rfl (zc true (fun g => concatN_a [(va, noRs a), (vb, noRs b)] (g (.o 2 0 2 2)) hokc (by simp) (by simp) hclen) rfl .fn rfl (by decide) (by kernel_rfl) rfl (fun _ => .cons (.frz rfl rfl rfl rfl rfl) .nil) (fun _ _ u Hr ⟨c, _, hu, hH⟩ => by rw [hu, hH]; exact ⟨.o, fun o ho => by rw [List.mem_singleton] at ho; subst ho; rw [hcat]; exact noFlat _⟩)) ?_
 rintro _ _ ⟨_, _, _, ⟨cL, hcL, rfl, rfl⟩, hF, hH⟩
 rw [hcat] at hF hH hcL
 (refine NST hF hH ?_; clear hF hH; rintro rfl rfl)
 refine WE ?_
 generalize hLL : a ++ b = L at *
 have e3 : (noRs L).length = L.length := by simp
 refine zC (fun m F H => ∃ (v : Value) (k mk : Nat) (out : List Nt) (cp : Nat) (ml : List (Nat × (List UInt8 × Int) × Nt)), m + k = L.length ∧ mrg out (L.drop k) = mrg a b ∧ (∀ s, mget ml s = out.find? fun o => decide (ky o = s)) ∧ out.length ≤ cp ∧ out.length ≤ k ∧ F = [(4, .c (.r (.slice none 0 0) [])), (5, .c (I 0)), (9, .mp 1), (10, .o 0 0 out.length cp), (34, .c (.r v (noRs L))), (35, .c (I (noRs L).length)), (36, .c (I k))] ∧ H = [.arr 39 10 cp (noRs out), mpO encO encN ml mk]) ?_ ?_
 ·refine zl [none, some 1] (fun g => [(4, .c (.r (.slice none 0 0) [])), (5, .c (I 0)), (9, .mp 1), (10, .o 0 0 0 0), (34, .c (.r (g (.o 3 0 (noRs L).length cL)) (noRs L))), (35, .c (I (noRs L).length)), (36, .c (I (0 : Nat)))]) (fun _ => [.arr 39 10 0 [], mpO encO encN [] 0]) (by decide) (ZNL hE) (fun g => .cons rfl (.c rfl) (.cons rfl (.c rfl) (.cons rfl (.mp rfl) (.cons rfl (.nil rfl) (.cons rfl (.frz rfl rfl (by rw [List.drop_zero, List.take_of_length_le (Nat.le_refl _)]) rfl rfl) (.cons rfl (.c rfl) (.cons rfl (.c rfl) .nil))))))) ZCH (fun g => ?_)
  exact ⟨L.length, _, 0, 0, [], 0, [], by omega, hLm, fun s => rfl, Nat.le_refl _, Nat.le_refl _, rfl, rfl⟩
 rintro m F H ⟨v, k, mk, out, cp, ml, hkk, hf, hml, hcp, hol, rfl, rfl⟩
 have hLl : L.length ≤ 800000 := by rw [← hLL, List.length_append]; omega
 refine WA ?_
 refine zq rfl (fun hlt2 => ?_) (fun hge2 => ?_)
 ·obtain ⟨x, hx⟩ : ∃ n, L[k]? = some n := ⟨_, List.getElem?_eq_getElem (by omega)⟩
  have hrow0 := zE1 hx
  rw [zX3 hx] at hf
  have hfk := fndN_ky out x
  have hmx := hml (ky x)
  rw [← hfk] at hmx
  obtain ⟨st, no, at_, kn, pr, jb, sp, n, of_, ot⟩ := x
  have hmx' : mget ml (st, no) = fndN out ⟨st, no, at_, kn, pr, jb, sp, n, of_, ot⟩ := hmx
  have hrow : (noRs L)[k]? = some [T st, I no, I at_, I kn, T pr, T jb, T sp, I n, T of_, I ot] := hrow0
  refine WA ?_
  refine WA ?_
  cases hfx : fndN out ⟨st, no, at_, kn, pr, jb, sp, n, of_, ot⟩ with
  | none =>
   rw [hfx] at hmx'
   have q1 : (mget ml (st, no)).getD zN = ⟨[], 0, 0, 0, [], [], [], 0, [], 0⟩ := by rw [hmx']; rfl
   have q2 : (mget ml (st, no)).isSome = false := by rw [hmx']; rfl
   rw [mrg_new hfx] at hf
   refine ZR ?_
   iterate 2 refine WX1 ?_
   refine ZA (rd_lkNl (k := (st, no)) (l := ml) (ck := mk) q1 q2 rfl rfl rfl rfl) ?_
   refine WE ?_
   refine WA ?_
   refine zb rfl ?_
   refine ZZ ?_
   refine ZR ?_
   iterate 3 refine WX1 ?_
   refine zh rfl (ef_muNl (k := (st, no)) (l := ml) (ck := mk) rfl rfl rfl rfl rfl rfl) ?_
   rintro _ _ ⟨rfl, rfl⟩
   refine WE ?_
   refine WR ?_
   refine zh rfl (Zapp (news := [[T st, I no, I at_, I kn, T pr, T jb, T sp, I n, T of_, I ot]]) (j := 1) (hE := KA (t := 26) rfl) (hsrc := .own rfl rfl rfl) (hj := rfl) (hle := by omega)) ?_
   rintro _ _ ⟨_, cc, hcc, rfl, rfl⟩
   refine WE ?_
   refine WA ?_
   refine zl [some 0, some 1] (fun _ => [(4, .c (.r (.slice none 0 0) [])), (5, .c (I 0)), (9, .mp 1), (10, .o 0 0 (out.length + 1) cc), (34, .c (.r v (noRs L))), (35, .c (I (noRs L).length)), (36, .c (I (k + 1 : Nat)))]) (fun _ => [.arr 39 10 cc (noRs out ++ [[T st, I no, I at_, I kn, T pr, T jb, T sp, I n, T of_, I ot]]), mpO encO encN (mset mk (st, no) ⟨st, no, at_, kn, pr, jb, sp, n, of_, ot⟩ ml) (mclk mk (st, no) ml)]) (by decide) (ZNL hE) ZCF ZCH (fun _ => ?_)
   refine ⟨m - 1, by omega, v, k + 1, mclk mk (st, no) ml, out ++ [⟨st, no, at_, kn, pr, jb, sp, n, of_, ot⟩], cc, mset mk (st, no) ⟨st, no, at_, kn, pr, jb, sp, n, of_, ot⟩ ml, by omega, hf, fun s => ?_, by simp at hcc ⊢; omega, by simp; omega, by simp, by rw [show noRs (out ++ [⟨st, no, at_, kn, pr, jb, sp, n, of_, ot⟩]) = noRs out ++ [noR ⟨st, no, at_, kn, pr, jb, sp, n, of_, ot⟩] from List.map_append]; rfl⟩
   rw [zg1, List.find?_append, ← hml]
   by_cases h : s = (st, no)
   ·subst h
    rw [if_pos rfl, hmx']
    simp
   ·rw [if_neg h]
    cases mget ml s with
    | some o => rfl
    | none => simp [Ne.symm h]
  | some o =>
   rw [hfx] at hmx'
   obtain ⟨o0, o1, o2, o3, o4, o5, o6, o7, o8, o9⟩ := o
   have q1 : (mget ml (st, no)).getD zN = ⟨o0, o1, o2, o3, o4, o5, o6, o7, o8, o9⟩ := by rw [hmx']; rfl
   have q2 : (mget ml (st, no)).isSome = true := by rw [hmx']; rfl
   obtain ⟨ne, hne⟩ : ∃ q, decide (¬ (⟨o0, o1, o2, o3, o4, o5, o6, o7, o8, o9⟩ : Nt) = ⟨st, no, at_, kn, pr, jb, sp, n, of_, ot⟩) = q := ⟨_, rfl⟩
   refine ZR ?_
   iterate 2 refine WX1 ?_
   refine ZA (rd_lkNl (k := (st, no)) (l := ml) (ck := mk) q1 q2 rfl rfl rfl rfl) ?_
   refine WE ?_
   refine WA ?_
   refine za rfl ?_
   refine ZZ ?_
   refine ZR ?_
   iterate 2 refine WX1 ?_
   refine ZA (rd_neqN (a := ⟨o0, o1, o2, o3, o4, o5, o6, o7, o8, o9⟩) (b := ⟨st, no, at_, kn, pr, jb, sp, n, of_, ot⟩) hne rfl rfl rfl) ?_
   refine WE ?_
   cases ne with
   | true =>
    refine zb rfl ?_
    refine ZZ ?_
    refine WA ?_
    rw [mrg_bad hfx (of_decide_eq_true hne)] at hf
    exact zZ (us := [.c (.r (.slice none 0 0) []), .c (I 13)]) [none] (fun _ => .t [.o 0 0 0 0, .c (I 13)]) (fun _ => [.arr 39 10 0 []]) (.tmp rfl (.tmp rfl .nil)) (by decide) (ZNK rfl) (fun _ => .tL (.cons (.nil rfl) (.cons (.c rfl) .nil))) ZCH (fun _ => hfail _ (by rw [hE0, ← hf]; rfl) (by decide))
   | false =>
    refine za rfl ?_
    refine ZZ ?_
    refine WA ?_
    refine zl [some 0, some 1] (fun _ => [(4, .c (.r (.slice none 0 0) [])), (5, .c (I 0)), (9, .mp 1), (10, .o 0 0 out.length cp), (34, .c (.r v (noRs L))), (35, .c (I (noRs L).length)), (36, .c (I (k + 1 : Nat)))]) (fun _ => [.arr 39 10 cp (noRs out), mpO encO encN ml mk]) (by decide) (ZNL hE) ZCF ZCH (fun _ => ?_)
    exact ⟨m - 1, by omega, v, k + 1, mk, out, cp, ml, by omega, by rw [← hf, mrg_old (by rw [hfx, Decidable.not_not.1 (of_decide_eq_false hne)])], hml, hcp, by omega, rfl, rfl⟩
 rw [List.drop_eq_nil_of_le (by omega)] at hf
 have hm : mrg a b = some out := by rw [← hf]; rfl
 have e4 : (noRs out).length = out.length := by simp
 refine ZZ ?_
 refine WA ?_
 refine zq rfl (fun h0 => ?_) (fun h0 => ?_)
 ·refine WA ?_
  exact zZ (us := [.c (.r (.slice none 0 0) []), .c (I 2)]) [none] (fun _ => .t [.o 0 0 0 0, .c (I 2)]) (fun _ => [.arr 39 10 0 []]) (.tmp rfl (.tmp rfl .nil)) (by decide) (ZNK rfl) (fun _ => .tL (.cons (.nil rfl) (.cons (.c rfl) .nil))) ZCH (fun _ => hfail _ (by rw [hE0, hm, mrE, if_pos (by omega)]) (by decide))
 ·refine ZZ ?_
  refine WR ?_
  refine zh rfl (zb1 [0] (fun _ => [.arr 39 10 cp (noRs out)]) false (fun _ => sortN_v 71 (by kernel_rfl) zC2 out cp (by omega)) rfl .fn rfl (by decide) (by kernel_rfl) rfl ZCH (by decide) ZCH (by simp)) ?_
  rintro F1 H1 ⟨_, _, _, _, ⟨r, ⟨hrp, hrs⟩, rfl, rfl⟩, hF, hH⟩
  rw [zS] at hF; (refine NSU hF hH ?_; clear hF hH; rintro rfl rfl)
  refine WE ?_
  have hrl := hrp.length_eq
  refine WA ?_
  exact zZ (us := [.o 0 0 out.length cp, .c (I 0)]) [some 0] (fun _ => .t [.o 0 0 r.length cp, .c (I 0)]) (fun _ => [.arr 39 10 cp (noRs r)]) (.tmp rfl (.tmp rfl .nil)) (by decide) (ZNK rfl) (fun _ => .tL (.cons (.o rfl hrl.symm) (.cons (.c rfl) .nil))) ZCH (fun _ => ⟨0, r, cp, by rw [hE0, hm, mrE, if_neg (by omega)], fun _ => ⟨out, hm, hrp, hrs⟩, fun h => absurd rfl h, by omega, rfl, rfl⟩)
end Go.Proofs.YtlhbfcfjepbhpaaGreatDoor
namespace Go.Proofs.YtlhbfcfjepbhpaaGreatDoor
open Go Go.RowKit
section
variable {P : Program} {N : Nat} {E : Env} {S : Nat → Prop} {ρ : List (Option Nat)} {F : Fm} {H : List OB} {a : Act} {w : World} {K : Fm → List OB → Prop} {Q : Exit → Fm → List OB → Prop}
def PE.ob : PE → OB
 | .bx _ l => .box (l.map .c)
 | .ar _ _ _ e sz cap rows => .arr e sz cap rows
 | .out => .dead
def PE.val : PE → Value
 | .bx v _ => v
 | .ar v .. => v
 | .out => undef
def PE.av (b : Nat) : PE → AV
 | .bx _ _ => .p b 0 0
 | .ar _ n c .. => .o b 0 n c
 | .out => .c (.s undef)
theorem mem_setL {α : Type} {l : List α} {k : Nat} {x y : α} (h : y ∈ l.set k x) : y = x ∨ y ∈ l := (List.mem_or_eq_of_mem_set h).symm
theorem hasP_set {l : List PE} {k j B : Nat} (h : (OB.pool (l.set k .out)).hasP j B) : j ≠ k ∧ (OB.pool l).hasP j B := by
 obtain ⟨l', e, h1, h2, h3⟩ := h
 injection h1 with h1
 subst h1
 rw [List.getElem?_set] at h2
 split at h2
 ·split at h2
  ·injection h2 with h2; subst h2; cases h3
  ·cases h2
 ·rename_i hne
  exact ⟨fun e => hne e.symm, l, e, rfl, h2, h3⟩
theorem R.take {p k : Nat} {l : List PE} {e : PE} (h : R N E S ρ F H a w) (hp : H[p]? = some (.pool l)) (hk : l[k]? = some e) (hne : e ≠ .out) : ∃ m, R N E S (ρ ++ [m]) F (H.set p (.pool (l.set k .out)) ++ [e.ob]) a w ∧ (e.av H.length).den (ρ ++ [m]) (H.set p (.pool (l.set k .out)) ++ [e.ob]) = e.val ∧ WF w S (ρ ++ [m]) (H.set p (.pool (l.set k .out)) ++ [e.ob]) (e.av H.length) := by
 have hpl : p < H.length := (List.getElem?_eq_some_iff.1 hp).1
 have hbl := h.hp.blk p _ hp
 have hok := hbl.2 e (List.mem_of_getElem? hk)
 let H1 := H.set p (.pool (l.set k .out))
 have hlen1 : H1.length = H.length := by simp [H1]
 have he1 : Ex ρ H ρ H1 := Ex.set hp rfl rfl (fun _ => rfl)
 have he : Ex ρ H (ρ ++ [e.blk]) (H1 ++ [e.ob]) := by
  have h2 := Ex.snoc (ρ := ρ) (H := H1) (by rw [hlen1]; exact h.hp.len) e.blk e.ob
  refine ⟨fun b hb => by rw [h2.at_ b (by rw [hlen1]; exact hb)], fun b hb => by rw [h2.sz b (by rw [hlen1]; exact hb), he1.sz b hb], fun b hb => by rw [h2.cap b (by rw [hlen1]; exact hb), he1.cap b hb], by simp [hlen1], fun b o hb hs => ?_⟩
  obtain ⟨o', h3, h4⟩ := he1.bx b o hb hs
  obtain ⟨o2, h5, h6⟩ := h2.bx b o' h3 (by rw [h4]; exact hs)
  exact ⟨o2, h5, h6.trans h4⟩
 have hobnp : ∀ k B, ¬ e.ob.hasP k B := fun k B hq => by
  obtain ⟨l', hl'⟩ := zB1 hq
  cases e <;> cases hl'
 have hin : ∀ i j B, inP (H1 ++ [e.ob]) i j B → inP H i j B ∧ ¬ (i = p ∧ j = k) := fun i j B hi => by
  obtain ⟨o, h1, h2⟩ := zj3 hobnp hi
  rw [List.getElem?_set] at h1
  split at h1
  ·rename_i hpi
   subst hpi
   try rw [if_pos hpl] at h1
   injection h1 with h1
   subst h1
   obtain ⟨h3, h4⟩ := hasP_set h2
   exact ⟨⟨_, hp, h4⟩, fun h => h3 h.2⟩
  ·rename_i hpi
   exact ⟨⟨o, h1, h2⟩, fun h => hpi h.1.symm⟩
 have hat : ∀ i, atB (ρ ++ [e.blk]) i = if i = H.length then e.blk else atB ρ i := fun i => by rw [zB, h.hp.len]
 have hsrc : ∀ i B, atB (ρ ++ [e.blk]) i = some B → (i ≠ H.length ∧ atB ρ i = some B) ∨ (i = H.length ∧ e.blk = some B ∧ inP H p k B) := fun i B hi => by
  rw [hat] at hi
  split at hi
  ·rename_i hii; exact .inr ⟨hii, hi, _, hp, l, e, rfl, hk, hi⟩
  ·rename_i hii; exact .inl ⟨hii, hi⟩
 have hR : R N E S (ρ ++ [e.blk]) F (H1 ++ [e.ob]) a w := by
  refine h.ex he Mo.refl ⟨by simp [hlen1, h.hp.len], fun i i' B hi hi' => ?_, fun i B hi => ?_, fun i B hi => ?_, h.hp.sS, fun i o ho => ?_, ⟨fun i j i' j' B h1 h2 => h.hp.pl.pd _ _ _ _ _ (hin _ _ _ h1).1 (hin _ _ _ h2).1, fun i j B h1 => ?_⟩⟩ h.st (fun i B hi => ?_) h.nS (fun i j B hi => h.pw _ _ _ (hin _ _ _ hi).1)
  ·rcases hsrc i B hi with ⟨e1, e2⟩ | ⟨e1, e2, e3⟩ <;> rcases hsrc i' B hi' with ⟨f1, f2⟩ | ⟨f1, f2, f3⟩
   ·exact h.hp.nd _ _ _ e2 f2
   ·exact absurd e2 ((h.hp.pl.ps _ _ _ f3).2.1 i)
   ·exact absurd f2 ((h.hp.pl.ps _ _ _ e3).2.1 i')
   ·omega
  ·rcases hsrc i B hi with ⟨e1, e2⟩ | ⟨e1, e2, e3⟩
   ·exact h.hp.ap _ _ e2
   ·exact (h.hp.pl.ps _ _ _ e3).1
  ·rcases hsrc i B hi with ⟨e1, e2⟩ | ⟨e1, e2, e3⟩
   ·exact h.hp.lt _ _ e2
   ·exact (h.hp.pl.ps _ _ _ e3).2.2
  ·rcases Nat.lt_or_ge i H.length with hil | hil
   ·rw [List.getElem?_append_left (by rw [hlen1]; exact hil)] at ho
    rw [hat, if_neg (by omega)]
    rw [List.getElem?_set] at ho
    split at ho
    ·rename_i hpi
     subst hpi
     try rw [if_pos hpl] at ho
     injection ho with ho
     subst ho
     refine ⟨hbl.1, fun x hx => ?_⟩
     rcases mem_setL hx with rfl | hx
     ·trivial
     ·exact hbl.2 x hx
    ·exact (h.hp.blk i o ho).ex he Mo.refl (fun _ _ => rfl) (fun _ _ _ => rfl)
   ·rw [List.getElem?_append_right (by rw [hlen1]; exact hil), hlen1] at ho
    cases hq : i - H.length with
    | succ n => rw [hq] at ho; simp at ho
    | zero =>
     rw [hq] at ho
     simp only [List.getElem?_cons_zero, Option.some.injEq] at ho
     subst ho
     rw [hat, if_pos (by omega)]
     cases e with
     | out => exact absurd rfl hne
     | bx v row =>
      obtain ⟨B, t, rfl, h1, h2⟩ := hok
      refine ⟨B, t, rfl, ?_, fun x hx => ?_⟩
      ·rw [h1, List.map_map]; rfl
      ·obtain ⟨u, hu, rfl⟩ := List.mem_map.1 hx
       exact ⟨.c (h2 u hu).1, (h2 u hu).2⟩
     | ar v n c et sz cap rows =>
      rcases hok with ⟨rfl, _, _, h3, h4⟩ | ⟨B, cs, rfl, h1, h2, h3, h4, h5, h6, h7, h8⟩
      ·exact .inl ⟨rfl, h3, h4⟩
      ·exact .inr ⟨B, cs, rfl, h3, h4, h5, h6, h7, h8⟩
  ·obtain ⟨g1, g2, g3⟩ := h.hp.pl.ps _ _ _ (hin _ _ _ h1).1
   refine ⟨g1, fun q hq => ?_, g3⟩
   rcases hsrc q B hq with ⟨_, e2⟩ | ⟨_, _, e3⟩
   ·exact g2 _ e2
   ·obtain ⟨e4, e5⟩ := h.hp.pl.pd _ _ _ _ _ (hin _ _ _ h1).1 e3
    exact (hin _ _ _ h1).2 ⟨e4, e5⟩
  ·rcases hsrc i B hi with ⟨_, e2⟩ | ⟨_, _, e3⟩
   ·exact h.nw _ _ e2
   ·exact .inl (h.pw _ _ _ e3)
 refine ⟨e.blk, hR, ?_, ?_⟩
 ·have hb : atB (ρ ++ [e.blk]) H.length = e.blk := by rw [hat, if_pos rfl]
  cases e with
  | out => exact absurd rfl hne
  | bx v row =>
   obtain ⟨B, t, rfl, h1, h2⟩ := hok
   simp only [PE.av, AV.den, hb, PE.val]
   simp [PE.blk]
  | ar v n c et sz cap rows =>
   rcases hok with ⟨rfl, rfl, rfl, h3, h4⟩ | ⟨B, cs, rfl, h1, h2, h3, h4, h5, h6, h7, h8⟩
   ·simp only [PE.av, AV.den, hb, PE.val]
    simp [PE.blk]
   ·simp only [PE.av, AV.den, hb, PE.val]
    simp [PE.blk]
 ·have hb : atB (ρ ++ [e.blk]) H.length = e.blk := by rw [hat, if_pos rfl]
  have hc : capAt (H1 ++ [e.ob]) H.length = e.ob.cap := by unfold capAt; rw [List.getElem?_append_right (by rw [hlen1]; exact Nat.le_refl _), hlen1]; simp
  cases e with
  | out => exact absurd rfl hne
  | bx v row =>
   obtain ⟨B, t, rfl, h1, h2⟩ := hok
   exact .p (by simp) (by rw [hb]; rfl)
  | ar v n c et sz cap rows =>
   rcases hok with ⟨rfl, rfl, rfl, h3, h4⟩ | ⟨B, cs, rfl, h1, h2, h3, h4, h5, h6, h7, h8⟩
   ·exact .o (by simp) (Nat.le_refl _) (by simp) (fun _ => ⟨rfl, rfl⟩)
   ·exact .o (by simp) h1 (by rw [hc]; simpa [PE.ob, OB.cap] using h2) (fun h => by rw [hb] at h; cases h)
theorem R.eqv {x : AV} (hR : R N E S ρ F H a w) (h2 : WF w S ρ H x) : R N E S (ρ ++ [none]) F (H ++ [.eqv x (x.den ρ H)]) a w := by
 have he := Ex.snoc (ρ := ρ) (H := H) hR.hp.len none (.eqv x (x.den ρ H))
 have hin : ∀ i k B, inP (H ++ [.eqv x (x.den ρ H)]) i k B → inP H i k B := fun i k B => zj3 (fun k B h => by obtain ⟨l, h⟩ := zB1 h; cases h)
 refine hR.ex he Mo.refl ⟨by simp [hR.hp.len], fun j j' B hj hj' => ?_, fun j B hj => ?_, fun j B hj => ?_, hR.hp.sS, fun j o ho => ?_, hR.hp.pl.mono hin (fun _ h => .inl h) (fun j B hj => ?_) (Nat.le_refl _)⟩ hR.st (fun j B hj => ?_) hR.nS (fun i k B h => hR.pw i k B (hin i k B h))
 ·rw [zB] at hj hj'
  split at hj
  ·cases hj
  ·split at hj'
   ·cases hj'
   ·exact hR.hp.nd j j' B hj hj'
 ·rw [zB] at hj
  split at hj
  ·cases hj
  ·exact hR.hp.ap j B hj
 ·rw [zB] at hj
  split at hj
  ·cases hj
  ·exact hR.hp.lt j B hj
 ·rcases Nat.lt_or_ge j H.length with hlt | hge
  ·rw [List.getElem?_append_left hlt] at ho
   rw [zB, if_neg (by rw [hR.hp.len]; omega)]
   exact (hR.hp.blk j o ho).ex he Mo.refl (fun _ _ => rfl) (fun _ _ _ => rfl)
  ·rw [List.getElem?_append_right hge] at ho
   cases hq : j - H.length with
   | zero =>
    rw [hq] at ho
    simp only [List.getElem?_cons_zero, Option.some.injEq] at ho
    subst ho
    exact ⟨h2.den_ex he, h2.ex he Mo.refl⟩
   | succ n => rw [hq] at ho; simp at ho
 ·rw [zB] at hj
  split at hj
  ·cases hj
  ·exact .inl ⟨j, hj⟩
 ·rw [zB] at hj
  split at hj
  ·cases hj
  ·exact hR.nw j B hj
theorem R.putp {b p k : Nat} {l l' : List PE} {e : PE} (h : R N E S ρ F H a w) (hb : H[b]? = some e.ob) (hne : e ≠ .out) (hp : H[p]? = some (.pool l)) (hq : (e.av b).den ρ H = e.val) (hw : WF w S ρ H (e.av b)) (hl1 : ∀ x ∈ l', x = e ∨ x ∈ l) (hl2 : ∀ j x, l'[j]? = some x → (j = k ∧ x = e) ∨ l[j]? = some x) (hlb : E.H0.length ≤ b) :
    R N E S (ρ.set b none) (killF (AV.den ρ H) [b] F) (((H.map (killO (AV.den ρ H) [b])).set b .dead).set p (.pool l')) a w := by
 have hpl : p < H.length := (List.getElem?_eq_some_iff.1 hp).1
 have hbl : b < H.length := (List.getElem?_eq_some_iff.1 hb).1
 have hpb : p ≠ b := fun e' => by subst e'; rw [hb] at hp; injection hp with hp; cases e <;> cases hp
 have hpool := h.hp.blk p _ hp
 have hbok := h.hp.blk b _ hb
 let H1 := (H.map (killO (AV.den ρ H) [b])).set b .dead
 have he : ExB [b] ρ H (ρ.set b none) (H1.set p (.pool l')) := by
  have hH : ∀ i, i < H.length → i ≠ b → ∃ o', (H1.set p (.pool l'))[i]? = some o' ∧ ∃ o, H[i]? = some o ∧ o'.sz = o.sz ∧ o'.cap = o.cap := fun i hi hib => by
   rw [List.getElem?_set]
   split
   ·rename_i hpi; subst hpi; rw [if_pos (by simpa [H1] using hi)]; exact ⟨_, rfl, _, hp, rfl, rfl⟩
   ·rw [List.getElem?_set_ne (Ne.symm hib), List.getElem?_map, List.getElem?_eq_getElem hi]; exact ⟨_, rfl, _, rfl, killO_sz _ _ _, zJ3 _ _ _⟩
  refine ⟨fun i hi hib => ?_, fun i hi hib => ?_, fun i hi hib => ?_, by simp [H1]⟩
  all_goals replace hib : i ≠ b := by simpa using hib
  ·unfold atB; rw [List.getElem?_set_ne (Ne.symm hib)]
  ·obtain ⟨o', h1, o, h2, h3, h4⟩ := hH i hi hib; unfold szAt; rw [h1, h2]; exact h3
  ·obtain ⟨o', h1, o, h2, h3, h4⟩ := hH i hi hib; unfold capAt; rw [h1, h2]; exact h4
 have hat : ∀ i B, atB (ρ.set b none) i = some B → i ≠ b ∧ atB ρ i = some B := fun i B hi => by
  by_cases hib : i = b
  ·subst hib
   unfold atB at hi
   rw [List.getElem?_set_self (by rw [h.hp.len]; exact hbl)] at hi
   cases hi
  ·refine ⟨hib, ?_⟩
   unfold atB at hi ⊢
   rw [List.getElem?_set_ne (Ne.symm hib)] at hi
   exact hi
 have heb : e.blk = atB ρ b := by
  cases e with
  | out => exact absurd rfl hne
  | bx v row =>
   obtain ⟨B, t, h1, _⟩ := hbok
   simp only [PE.av, AV.den, h1, PE.val] at hq
   rw [h1, ← hq]; rfl
  | ar v n c et sz cap rows =>
   simp only [PE.av, AV.den, PE.val] at hq
   rw [← hq]
   cases hB : atB ρ b <;> rfl
 have heok : PEok w S e := by
  cases e with
  | out => trivial
  | bx v row =>
   obtain ⟨B, t, h1, h2, h3⟩ := hbok
   simp only [PE.av, AV.den, h1, PE.val] at hq
   refine ⟨B, t, ?_, ?_, fun u hu => ?_⟩
   ·rw [← hq]; simp
   ·rw [h2, List.map_map]; rfl
   ·have := h3 (.c u) (List.mem_map.2 ⟨u, hu, rfl⟩)
    refine ⟨?_, this.2⟩
    cases this.1 with | c g => exact g
  | ar v n c et sz cap rows =>
   simp only [PE.av, AV.den, PE.val] at hq
   have hcap : capAt H b = cap := by unfold capAt; rw [hb]; rfl
   cases hw with
   | o g0 g1 g2 g3 =>
    rcases hbok with ⟨h1, h2, h3⟩ | ⟨B, cs, h1, h2, h3, h4, h5, h6, h7⟩
    ·obtain ⟨rfl, rfl⟩ := g3 h1
     refine .inl ⟨?_, rfl, rfl, h2, h3⟩
     rw [← hq, h1]; rfl
    ·refine .inr ⟨B, cs, ?_, g1, by omega, h2, h3, h4, h5, h6, h7⟩
     rw [← hq, h1]; simp
 have hin : ∀ i j B, inP (H1.set p (.pool l')) i j B → inP H i j B ∨ (i = p ∧ j = k ∧ atB ρ b = some B) := fun i j B hi => by
  obtain ⟨o, h1, h2⟩ := hi
  rw [List.getElem?_set] at h1
  split at h1
  ·rename_i hpi
   subst hpi
   try rw [if_pos (by simpa [H1] using hpl)] at h1
   injection h1 with h1
   subst h1
   obtain ⟨l2, x, h3, h4, h5⟩ := h2
   injection h3 with h3
   subst h3
   rcases hl2 j x h4 with ⟨rfl, rfl⟩ | h6
   ·exact .inr ⟨rfl, rfl, by rw [← heb]; exact h5⟩
   ·exact .inl ⟨_, hp, l, x, rfl, h6, h5⟩
  ·exact .inl (inP_kill (inP_set (fun _ _ h => by obtain ⟨l, h⟩ := zB1 h; cases h) ⟨o, h1, h2⟩))
 have hm : Mo w S w S := Mo.refl
 refine ⟨h.df, h.sz, fun i y hy => ?_, ⟨by simp [h.hp.len], fun i i' B hi hi' => h.hp.nd i i' B (hat _ _ hi).2 (hat _ _ hi').2, fun i B hi => h.hp.ap i B (hat _ _ hi).2, fun i B hi => h.hp.lt i B (hat _ _ hi).2, h.hp.sS, fun i y hy => ?_, ⟨fun i j i' j' B h1 h2 => ?_, fun i j B h1 => ?_⟩⟩, h.st, fun i B hi => h.nw i B (hat _ _ hi).2, h.nS, fun i j B hi => ?_, fun i hi => ?_, fun hpp i hi => ?_⟩
 ·obtain ⟨y', h1, rfl⟩ := zn2 hy
  obtain ⟨h2, h3⟩ := h.fr i y' h1
  obtain ⟨h4, h5⟩ := h3.killed he hm
  exact ⟨by rw [h4]; exact h2, h5⟩
 ·rw [List.getElem?_set] at hy
  split at hy
  ·rename_i hpi
   subst hpi
   try rw [if_pos (by simpa [H1] using hpl)] at hy
   injection hy with hy
   subst hy
   refine ⟨?_, fun x hx => ?_⟩
   ·unfold atB; rw [List.getElem?_set_ne (Ne.symm hpb)]; exact hpool.1
   ·rcases hl1 x hx with rfl | hx
    ·exact heok
    ·exact hpool.2 x hx
  ·rw [List.getElem?_set] at hy
   split at hy
   ·split at hy
    ·injection hy with hy; subst hy; trivial
    ·cases hy
   ·rename_i hbi
    rw [List.getElem?_map] at hy
    cases hz : H[i]? with
    | none => rw [hz] at hy; cases hy
    | some ob =>
     rw [hz] at hy
     simp only [Option.map_some, Option.some.injEq] at hy
     subst hy
     have ha : atB (ρ.set b none) i = atB ρ i := by unfold atB; rw [List.getElem?_set_ne hbi]
     rw [ha]
     exact (h.hp.blk i ob hz).killed he hm (fun _ _ => rfl) (fun _ _ _ => rfl)
 ·rcases hin i j B h1 with g | ⟨g1, g2, g3⟩ <;> rcases hin i' j' B h2 with g' | ⟨g1', g2', g3'⟩
  ·exact h.hp.pl.pd _ _ _ _ _ g g'
  ·exact absurd g3' ((h.hp.pl.ps _ _ _ g).2.1 b)
  ·exact absurd g3 ((h.hp.pl.ps _ _ _ g').2.1 b)
  ·exact ⟨g1.trans g1'.symm, g2.trans g2'.symm⟩
 ·rcases hin i j B h1 with g | ⟨g1, g2, g3⟩
  ·obtain ⟨q1, q2, q3⟩ := h.hp.pl.ps _ _ _ g
   exact ⟨q1, fun q hq => q2 q (hat _ _ hq).2, q3⟩
  ·exact ⟨h.hp.ap b B g3, fun q hq => (hat _ _ hq).1 (h.hp.nd _ _ _ (hat _ _ hq).2 g3), h.hp.lt b B g3⟩
 ·rcases hin i j B hi with g | ⟨g1, g2, g3⟩
  ·exact h.pw _ _ _ g
  ·rcases h.nw b B g3 with g4 | ⟨g4, _⟩
   ·exact g4
   ·omega
 ·obtain ⟨h1, h2⟩ := h.ln i hi
  refine ⟨by simpa [H1] using h1, fun o ho hs => ?_⟩
  obtain ⟨h3, o', h4, h5⟩ := h2 o ho hs
  have hib : i ≠ b := by omega
  refine ⟨by unfold atB; rw [List.getElem?_set_ne (Ne.symm hib)]; exact h3, ?_⟩
  rw [List.getElem?_set]
  split
  ·rename_i hpi
   subst hpi
   try rw [if_pos (by simpa [H1] using h1)]
   rw [hp] at h4
   injection h4 with h4
   subst h4
   exact ⟨_, rfl, h5⟩
  ·exact ⟨killO (AV.den ρ H) [b] o', by rw [List.getElem?_set_ne (Ne.symm hib), List.getElem?_map, h4]; rfl, by rw [zI3]; exact h5⟩
 ·have hib : i ≠ b := by omega
  have hil := (h.ln i hi).1
  obtain ⟨h1, h2, h3⟩ := h.pn hpp i hi
  exact ⟨by rw [he.at_ i hil (by simpa using hib)]; exact h1, by rw [he.sz i hil (by simpa using hib)]; exact h2, by rw [he.cap i hil (by simpa using hib)]; exact h3⟩
theorem wk_putk {b q p k : Nat} {l : List PE} (e : PE) (hq : H[q]? = some (.eqv (e.av b) e.val)) (hb : H[b]? = some e.ob) (hne : e ≠ .out) (hp : H[p]? = some (.pool l)) (hlb : ∃ n, E.H0.length = n ∧ Nat.ble n b = true)
    (h : ∀ g, g (e.av b) = e.val → K (killF g [b] F) (((H.map (killO g [b])).set b .dead).set p (.pool (l.set k e)))) : Wk N E F H K := fun S ρ a w hR => by
 obtain ⟨h1, h2⟩ := hR.hp.blk q _ hq
 obtain ⟨n, hn, hnb⟩ := hlb
 refine ⟨S, _, _, _, h (AV.den ρ H) h1, hR.putp (k := k) hb hne hp h1 h2 (fun x hx => mem_setL hx) (fun j x hj => ?_) (by have := Nat.le_of_ble_eq_true hnb; omega)⟩
 rw [List.getElem?_set] at hj
 split at hj
 ·rename_i hjk
  split at hj
  ·injection hj with hj; exact .inl ⟨hjk.symm, hj.symm⟩
  ·cases hj
 ·exact .inr hj
theorem wk_pute {b q p : Nat} {l : List PE} (e : PE) (hq : H[q]? = some (.eqv (e.av b) e.val)) (hb : H[b]? = some e.ob) (hne : e ≠ .out) (hp : H[p]? = some (.pool l)) (hlb : ∃ n, E.H0.length = n ∧ Nat.ble n b = true)
    (h : ∀ g, g (e.av b) = e.val → K (killF g [b] F) (((H.map (killO g [b])).set b .dead).set p (.pool (l ++ [e])))) : Wk N E F H K := fun S ρ a w hR => by
 obtain ⟨h1, h2⟩ := hR.hp.blk q _ hq
 obtain ⟨n, hn, hnb⟩ := hlb
 refine ⟨S, _, _, _, h (AV.den ρ H) h1, hR.putp (k := l.length) hb hne hp h1 h2 (fun x hx => ?_) (fun j x hj => ?_) (by have := Nat.le_of_ble_eq_true hnb; omega)⟩
 ·rcases List.mem_append.1 hx with hx | hx
  ·exact .inr hx
  ·exact .inl (List.mem_singleton.1 hx)
 ·rw [List.getElem?_append] at hj
  split at hj
  ·exact .inr hj
  ·rename_i hjl
   rw [List.getElem?_singleton] at hj
   split at hj
   ·injection hj with hj; exact .inl ⟨by omega, hj.symm⟩
   ·cases hj
theorem R.snocN {o : OB} (hR : R N E S ρ F H a w) (ho : OwnB w S (ρ ++ [none]) (H ++ [o]) o none) (hnp : ∀ k B, ¬ o.hasP k B) : R N E S (ρ ++ [none]) F (H ++ [o]) a w := by
 have he := Ex.snoc (ρ := ρ) (H := H) hR.hp.len none o
 have hin : ∀ i k B, inP (H ++ [o]) i k B → inP H i k B := fun i k B => zj3 hnp
 have hn : ∀ j B, atB (ρ ++ [none]) j = some B → atB ρ j = some B := fun j B hj => by
  rw [zB] at hj
  split at hj
  ·cases hj
  ·exact hj
 refine hR.ex he Mo.refl ⟨by simp [hR.hp.len], fun j j' B hj hj' => hR.hp.nd _ _ _ (hn _ _ hj) (hn _ _ hj'), fun j B hj => hR.hp.ap _ _ (hn _ _ hj), fun j B hj => hR.hp.lt _ _ (hn _ _ hj), hR.hp.sS, fun j o' ho' => ?_, hR.hp.pl.mono hin (fun _ h => .inl h) (fun j B hj => .inl ⟨j, hn _ _ hj⟩) (Nat.le_refl _)⟩ hR.st (fun j B hj => hR.nw _ _ (hn _ _ hj)) hR.nS (fun i k B h => hR.pw i k B (hin i k B h))
 rcases Nat.lt_or_ge j H.length with hlt | hge
 ·rw [List.getElem?_append_left hlt] at ho'
  rw [zB, if_neg (by rw [hR.hp.len]; omega)]
  exact (hR.hp.blk j o' ho').ex he Mo.refl (fun _ _ => rfl) (fun _ _ _ => rfl)
 ·rw [List.getElem?_append_right hge] at ho'
  cases hq : j - H.length with
  | zero =>
   rw [hq] at ho'
   simp only [List.getElem?_cons_zero, Option.some.injEq] at ho'
   subst ho'
   rw [zB, if_pos (by rw [hR.hp.len]; omega)]
   exact ho
  | succ n => rw [hq] at ho'; simp at ho'
theorem wk_bind {K1 : Fm → List OB → Prop} (h : Wk N E F H K1) (hk : ∀ F H, K1 F H → Wk N E F H K) : Wk N E F H K := fun S ρ a w hR => by
 obtain ⟨S1, ρ1, F1, H1, h1, hR1⟩ := h S ρ a w hR
 exact hk F1 H1 h1 S1 ρ1 a w hR1
theorem wk_pool0 (h : K F (H ++ [.pool []])) : Wk N E F H K := fun S ρ a w hR => by
 have he := Ex.snoc (ρ := ρ) (H := H) hR.hp.len none (.pool [])
 have hin : ∀ i k B, inP (H ++ [.pool []]) i k B → inP H i k B := fun i k B => zj3 (fun k B ⟨l, e, h1, h2, _⟩ => by injection h1 with h1; subst h1; simp at h2)
 have hn : ∀ j B, atB (ρ ++ [none]) j = some B → atB ρ j = some B := fun j B hj => by
  rw [zB] at hj
  split at hj
  ·cases hj
  ·exact hj
 refine ⟨S, ρ ++ [none], _, _, h, hR.ex he Mo.refl ⟨by simp [hR.hp.len], fun j j' B hj hj' => hR.hp.nd _ _ _ (hn _ _ hj) (hn _ _ hj'), fun j B hj => hR.hp.ap _ _ (hn _ _ hj), fun j B hj => hR.hp.lt _ _ (hn _ _ hj), hR.hp.sS, fun j o ho => ?_, hR.hp.pl.mono hin (fun _ h => .inl h) (fun j B hj => .inl ⟨j, hn _ _ hj⟩) (Nat.le_refl _)⟩ hR.st (fun j B hj => hR.nw _ _ (hn _ _ hj)) hR.nS (fun i k B h => hR.pw i k B (hin i k B h))⟩
 rcases Nat.lt_or_ge j H.length with hlt | hge
 ·rw [List.getElem?_append_left hlt] at ho
  rw [zB, if_neg (by rw [hR.hp.len]; omega)]
  exact (hR.hp.blk j o ho).ex he Mo.refl (fun _ _ => rfl) (fun _ _ _ => rfl)
 ·rw [List.getElem?_append_right hge] at ho
  cases hq : j - H.length with
  | zero =>
   rw [hq] at ho
   simp only [List.getElem?_cons_zero, Option.some.injEq] at ho
   subst ho
   refine ⟨?_, fun e he => by cases he⟩
   rw [zB, if_pos (by rw [hR.hp.len]; omega)]
  | succ n => rw [hq] at ho; simp at ho
end
end Go.Proofs.YtlhbfcfjepbhpaaGreatDoor
