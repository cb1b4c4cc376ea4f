/- MergedNotes, by value. -/
import Derived.Test.YtcchlddiggmcaaaGreatDoorQbf
set_option linter.unusedSimpArgs false
set_option linter.unusedVariables false
-- NEWM
namespace Go.Proofs.YtcchlddiggmcaaaGreatDoor
open Go Go.RowKit
set_option maxRecDepth 100000
def catR (ps : List (Value × List (List CV))) : List (List CV) := ps.flatMap (·.2)
theorem catR_next {ps : List (Value × List (List CV))} {k : Nat} {p : Value × List (List CV)} (h : ps[k]? = some p) : catR (ps.take (k + 1)) = catR (ps.take k) ++ p.2 := by
 rw [catR, List.take_add_one, h, List.flatMap_append]; simp [catR]
theorem catR_le {ps : List (Value × List (List CV))} (k : Nat) : (catR (ps.take k)).length ≤ (catR ps).length := by
 conv => rhs; rw [← List.take_append_drop k ps]
 rw [catR, catR, List.flatMap_append, List.length_append]; omega
theorem catR_part {ps : List (Value × List (List CV))} {k : Nat} {p : Value × List (List CV)} (h : ps[k]? = some p) : (catR (ps.take k)).length + p.2.length ≤ (catR ps).length := by
 have := catR_le (ps := ps) (k + 1)
 rw [catR_next h, List.length_append] at this
 exact this
theorem growN_a (n : Nat) (hn : n ≤ 1000000) : ACalls Tryz.prog 70 [.c (.r (.slice none 0 0) []), .c (I n)] [] fun u H => ∃ (c : Nat) (rows : List (List CV)), n ≤ c ∧ u = .o 0 0 0 c ∧ H = [.arr 33 10 c rows] := by
 refine zh (N := 27) Tryz.func70 rfl rfl (by simp) fun E hE => ?_
 refine aw_wk (zm (K := fun F H => F = [(0, .o 0 0 0 0), (1, .c (I n))] ∧ H = [.arr 33 10 0 []]) [none] (fun _ => [(0, .o 0 0 0 0), (1, .c (I n))]) (fun _ => [.arr 33 10 0 []]) (by decide) (ZNL hE) ZCF ZCH (fun _ => ⟨rfl, rfl⟩)) ?_
 rintro F H ⟨rfl, rfl⟩
 refine WA ?_
 refine WA ?_
 refine zc rfl ?_
 refine ZZ ?_
 rcases Nat.eq_zero_or_pos n with h0 | hp
 ·refine WA ?_
  refine WA ?_
  refine zc rfl ?_
  refine ZZ ?_
  refine WA ?_
  exact aret_o [some 0] (fun _ => [.arr 33 10 0 []]) rfl rfl rfl rfl rfl (by decide) (ZNK rfl) ZCH (fun _ => ⟨0, [], by omega, rfl, rfl⟩)
 ·refine WA ?_
  refine WA ?_
  refine zb rfl ?_
  refine ZR ?_
  iterate 3 refine WX1 ?_
  refine ZA (rd_slicee (l := 0) (h := 0) rfl (KE (t := 26) rfl) rfl rfl (.inl ⟨rfl, rfl⟩) (.inr ⟨_, _, _, rfl, rfl, rfl⟩) rfl rfl) ?_
  refine WO ?_
  refine ze rfl (ef_appz (n := n) rfl rfl (by decide) (KA (t := 26) rfl) Tryz.underlying3 rfl rfl rfl (by omega) (by omega) (by omega) (KZ (t := 33) rfl) rfl rfl) ?_
  rintro _ _ ⟨c2, hc2, rfl, rfl⟩
  iterate 2 refine WX1 ?_
  refine ZA (rd_slice (l := 0) (h := 0) rfl (KE (t := 26) rfl) rfl rfl (.inl ⟨rfl, rfl⟩) (.inr ⟨_, _, _, rfl, rfl, rfl⟩) (by omega) (by omega) (by omega)) ?_
  refine WE ?_
  refine WA ?_
  exact aret_o [some 1] (fun _ => [.arr 33 10 c2 (List.replicate n [T [], I 0, I 0, I 0, T [], T [], T [], I 0, T [], I 0])]) rfl rfl rfl rfl rfl (by decide) (ZNK rfl) ZCH (fun _ => ⟨c2, _, by omega, rfl, rfl⟩)
theorem concatN_a (ps : List (Value × List (List CV))) (v : Value) (hR : ∀ p ∈ ps, OkR 10 p.2) (h1 : 1 ≤ ps.length) (hl : ps.length ≤ 1000) (hn : (catR ps).length ≤ 1000000) :
    ACalls Tryz.prog 45 [.c (.r v (ps.map fun p => [.r p.1 p.2]))] [] fun u H => ∃ (c : Nat), (catR ps).length ≤ c ∧ u = .o 0 0 (catR ps).length c ∧ H = [.arr 33 10 c (catR ps)] := by
 have e1 : (ps.map fun p => [CV.r p.1 p.2]).length = ps.length := by simp
 refine zh (N := 36) Tryz.func45 rfl rfl (by simp) fun E hE => ?_
 refine WA ?_
 refine WA ?_
 refine WA ?_
 refine zC (fun m F H => ∃ (k : Nat), m + k = ps.length ∧ F = [(0, .c (.r v (ps.map fun p => [.r p.1 p.2]))), (3, .c (I (catR (ps.take k)).length)), (9, .c (.r v (ps.map fun p => [.r p.1 p.2]))), (10, .c (I (ps.map fun p => [CV.r p.1 p.2]).length)), (11, .c (I k))] ∧ H = []) ?_ ?_
 ·refine zm [] (fun _ => [(0, .c (.r v (ps.map fun p => [.r p.1 p.2]))), (3, .c (I (catR (ps.take 0)).length)), (9, .c (.r v (ps.map fun p => [.r p.1 p.2]))), (10, .c (I (ps.map fun p => [CV.r p.1 p.2]).length)), (11, .c (I (0 : Nat)))]) (fun _ => _) (by decide) (ZNL hE) ZCF (fun _ => .nil) (fun _ => ?_)
  exact ⟨ps.length, 0, by omega, rfl, rfl⟩
 ·rintro m F H ⟨k, hk, rfl, rfl⟩
  refine WA ?_
  refine zr rfl (fun hlt => ?_) (fun hge => ?_)
  ·obtain ⟨p, hp⟩ : ∃ p, ps[k]? = some p := ⟨_, List.getElem?_eq_getElem (by omega)⟩
   have hrow : (ps.map fun p => [CV.r p.1 p.2])[k]? = some [.r p.1 p.2] := by rw [List.getElem?_map, hp]; rfl
   have hpl := catR_part hp
   refine WA ?_
   refine WA ?_
   refine WA ?_
   refine zc rfl ?_
   refine ZZ ?_
   refine WA ?_
   refine zm [] (fun _ => [(0, .c (.r v (ps.map fun p => [.r p.1 p.2]))), (3, .c (I (((catR (ps.take k)).length : Int) + p.2.length))), (9, .c (.r v (ps.map fun p => [.r p.1 p.2]))), (10, .c (I (ps.map fun p => [CV.r p.1 p.2]).length)), (11, .c (I (k + 1 : Nat)))]) (fun _ => _) (by decide) (ZNL hE) ZCF (fun _ => .nil) (fun _ => ?_)
   exact ⟨m - 1, by omega, k + 1, by omega, by rw [catR_next hp, List.length_append]; rfl, rfl⟩
  obtain rfl : k = ps.length := by omega
  refine ZZ ?_
  have e3 : ((catR (ps.take ps.length)).length : Int) = (catR ps).length := by rw [List.take_length]
  refine aw_wk (zm (K := fun F H => F = [(0, .c (.r v (ps.map fun p => [.r p.1 p.2]))), (3, .c (I (catR ps).length))] ∧ H = []) [] (fun _ => [(0, .c (.r v (ps.map fun p => [.r p.1 p.2]))), (3, .c (I (catR ps).length))]) (fun _ => _) (by decide) (ZNL hE) (fun _ => .cons rfl (.c rfl) (.cons rfl (.c (by rw [e3])) .nil)) (fun _ => .nil) (fun _ => ⟨rfl, rfl⟩)) ?_
  rintro F H ⟨rfl, rfl⟩
  refine WR ?_
  refine ze rfl (za false (fun _ => growN_a (catR ps).length (by omega)) rfl .fn rfl (by decide) (by kernel_rfl) rfl (fun _ => C0 rfl) (by simp)) ?_
  rintro _ _ ⟨_, _, _, ⟨c, rows, hc, rfl, rfl⟩, hF, hH⟩
  (refine NST hF hH ?_; clear hF hH; rintro rfl rfl)
  refine WE ?_
  refine WA ?_
  refine zC (fun m F H => ∃ (k c : Nat) (rows : List (List CV)), m + k = ps.length ∧ (catR (ps.take k)).length ≤ c ∧ (catR ps).length ≤ c ∧ (catR (ps.take k)).length ≤ rows.length ∧ rows.take (catR (ps.take k)).length = catR (ps.take k) ∧ (1 ≤ k → rows = catR (ps.take k)) ∧ F = [(6, .o 0 0 (catR (ps.take k)).length c), (25, .c (.r v (ps.map fun p => [.r p.1 p.2]))), (26, .c (I (ps.map fun p => [CV.r p.1 p.2]).length)), (27, .c (I k))] ∧ H = [.arr 33 10 c rows]) ?_ ?_
  ·refine zm [some 0] (fun _ => [(6, .o 0 0 (catR (ps.take 0)).length c), (25, .c (.r v (ps.map fun p => [.r p.1 p.2]))), (26, .c (I (ps.map fun p => [CV.r p.1 p.2]).length)), (27, .c (I (0 : Nat)))]) (fun _ => _) (by decide) (ZNL hE) ZCF ZCH (fun _ => ?_)
   exact ⟨ps.length, 0, c, rows, by omega, by simp [catR], hc, by simp [catR], by simp [catR], by omega, rfl, rfl⟩
  rintro m F H ⟨k, c, rows, hk, hc1, hc, hq, hrt, hre, rfl, rfl⟩
  refine WA ?_
  refine zr rfl (fun hlt => ?_) (fun hge => ?_)
  ·obtain ⟨p, hp⟩ : ∃ p, ps[k]? = some p := ⟨_, List.getElem?_eq_getElem (by omega)⟩
   have hrow : (ps.map fun p => [CV.r p.1 p.2])[k]? = some [.r p.1 p.2] := by rw [List.getElem?_map, hp]; rfl
   have hpl := catR_part hp
   have hnx := catR_next hp
   refine WA ?_
   refine WR ?_
   refine ze rfl (ef_appc (b := 0) (n := (catR (ps.take k)).length) (cap := c) (news := p.2) rfl rfl (by decide) (KA (t := 26) rfl) rfl rfl hq rfl (.ro (fun r h => (hR p (List.mem_of_getElem? hp) r h).1) (fun r h => (hR p (List.mem_of_getElem? hp) r h).2)) (by omega)) ?_
   rintro F1 H1 ⟨_, c2, hc2, hcf, hF, hH⟩
   obtain rfl : c = c2 := (hcf (by omega)).symm
   (refine NSU hF hH ?_; clear hF hH; rintro rfl rfl)
   refine WE ?_
   refine WA ?_
   refine zm [some 0] (fun _ => [(6, .o 0 0 (catR (ps.take (k + 1))).length _), (25, .c (.r v (ps.map fun p => [.r p.1 p.2]))), (26, .c (I (ps.map fun p => [CV.r p.1 p.2]).length)), (27, .c (I (k + 1 : Nat)))]) (fun _ => _) (by decide) (ZNL hE) (fun _ => .cons rfl (.o rfl (by rw [hnx, List.length_append])) (.cons rfl (.c rfl) (.cons rfl (.c rfl) (.cons rfl (.c (by simp)) .nil)))) ZCH (fun _ => ?_)
   exact ⟨m - 1, by omega, k + 1, _, _, by omega, by rw [hnx, List.length_append]; omega, hc, by rw [hnx, hrt]; simp, by rw [hnx, hrt, List.take_length], fun _ => by rw [hnx, hrt], rfl, rfl⟩
  obtain rfl : k = ps.length := by omega
  obtain rfl : rows = catR ps := by have := hre h1; rwa [List.take_length] at this
  refine ZZ ?_
  refine WA ?_
  exact aret_o [some 0] (fun _ => [.arr 33 10 c (catR ps)]) rfl rfl rfl (by rw [List.take_length]) rfl (by decide) (ZNK rfl) ZCH (fun _ => ⟨c, hc, rfl, rfl⟩)
end Go.Proofs.YtcchlddiggmcaaaGreatDoor
-- NEWM
namespace Go.Proofs.YtcchlddiggmcaaaGreatDoor
open Go Go.RowKit
set_option maxRecDepth 100000
def fndN (out : List Nt) (x : Nt) : Option Nt := out.find? fun o => snB o x
theorem snB_ky {a b : Nt} : snB a b = true ↔ ky a = ky b := by simp [snB]
def mrg : List Nt → List Nt → Option (List Nt)
 | out, [] => some out
 | out, x :: l => if (fndN out x).isNone then mrg (out ++ [x]) l else if fndN out x = some x then mrg out l else none
theorem mrg_new {out l : List Nt} {x : Nt} (h : fndN out x = none) : mrg out (x :: l) = mrg (out ++ [x]) l := by rw [mrg, h]; rfl
theorem mrg_old {out l : List Nt} {x : Nt} (h : fndN out x = some x) : mrg out (x :: l) = mrg out l := by rw [mrg, h]; simp
theorem mrg_bad {out l : List Nt} {x o : Nt} (h : fndN out x = some o) (hn : ¬ o = x) : mrg out (x :: l) = none := by rw [mrg, h]; simp [hn]
theorem fndN_none {out : List Nt} {x : Nt} : fndN out x = none ↔ ky x ∉ out.map ky := by
 unfold fndN
 rw [List.find?_eq_none]
 constructor
 ·intro h hm
  obtain ⟨o, ho, e⟩ := List.mem_map.1 hm
  exact h o ho (snB_ky.2 e)
 ·intro h o ho e
  exact h (List.mem_map.2 ⟨o, ho, snB_ky.1 e⟩)
theorem mrg_pre : ∀ (a b p : List Nt), ((p ++ a).map ky).Nodup → mrg p (a ++ b) = mrg (p ++ a) b
 | [], b, p, _ => by simp
 | x :: a, b, p, h => by
  have e : p ++ x :: a = (p ++ [x]) ++ a := by simp
  rw [e] at h ⊢
  have hn : fndN p x = none := fndN_none.2 fun hm => by
   rw [List.map_append, List.map_append] at h
   have h2 := (List.nodup_append.1 (List.nodup_append.1 h).1).2.2
   exact h2 _ hm _ (by simp) rfl
  rw [List.cons_append, mrg_new hn]
  exact mrg_pre a b (p ++ [x]) h
theorem mrg_nodup : ∀ (l out r : List Nt), (out.map ky).Nodup → mrg out l = some r → (r.map ky).Nodup
 | [], out, r, h, e => by simp [mrg] at e; rw [← e]; exact h
 | x :: l, out, r, h, e => by
  by_cases h1 : fndN out x = none
  ·rw [mrg_new h1] at e
   refine mrg_nodup l _ r ?_ e
   rw [List.map_append]
   exact List.nodup_append.2 ⟨h, by simp, fun a ha b hb e2 => by
    simp at hb; subst hb; subst e2
    exact fndN_none.1 h1 ha⟩
  ·by_cases h2 : fndN out x = some x
   ·rw [mrg_old h2] at e; exact mrg_nodup l out r h e
   ·rw [mrg, if_neg (by simpa using h1), if_neg h2] at e; cases e
theorem mrg_len : ∀ (l out r : List Nt), mrg out l = some r → r.length ≤ out.length + l.length
 | [], out, r, e => by simp [mrg] at e; rw [← e]; simp
 | x :: l, out, r, e => by
  by_cases h1 : fndN out x = none
  ·rw [mrg_new h1] at e
   have := mrg_len l _ r e
   simp at this ⊢; omega
  ·by_cases h2 : fndN out x = some x
   ·rw [mrg_old h2] at e
    have := mrg_len l out r e
    simp; omega
   ·rw [mrg, if_neg (by simpa using h1), if_neg h2] at e; cases e
theorem sorted_eq : ∀ {a b : List Nt}, a.Perm b → (a.map ky).Nodup → (a.Pairwise fun x y => ¬ cmpNt y x < 0) → (b.Pairwise fun x y => ¬ cmpNt y x < 0) → a = b := by
 intro a b hp hn ha hb
 refine List.Perm.eq_of_pairwise (le := fun x y => ¬ cmpNt y x < 0) (fun x y hx hy h1 h2 => ?_) ha hb hp
 have n1 := cmpNt_neg x y
 have h0 : cmpNt x y = 0 := by omega
 obtain ⟨_, e2, e3⟩ := (cmpNt_0 x y).1 h0
 have hy' : y ∈ a := hp.symm.subset hy
 have hk : ky x = ky y := by simp [e2, e3]
 have hinj : ∀ {l : List Nt}, (l.map ky).Nodup → ∀ {x y : Nt}, x ∈ l → y ∈ l → ky x = ky y → x = y := by
  intro l
  induction l with
  | nil => intro _ x y hx; cases hx
  | cons z l ih =>
   intro h x y hx hy e
   rw [List.map_cons, List.nodup_cons] at h
   rcases List.mem_cons.1 hx with e1 | hx2 <;> rcases List.mem_cons.1 hy with e2 | hy2
   ·exact e1.trans e2.symm
   ·exact absurd (List.mem_map.2 ⟨y, hy2, by rw [← e, e1]⟩) h.1
   ·exact absurd (List.mem_map.2 ⟨x, hx2, by rw [e, e2]⟩) h.1
   ·exact ih h.2 hx2 hy2 e
 exact hinj hn hx hy' hk
def zN : Nt := ⟨[], 0, 0, 0, [], [], [], 0, [], 0⟩
def encN : Enc Nt := ⟨fun a => .agg #[.string (bst a.st), .int .i64 a.no, .int .i64 a.at_, .int .i64 a.kd, .string (bst a.pr), .string (bst a.jb), .string (bst a.sp), .int .i64 a.n, .string (bst a.of_), .int .i64 a.ot], fun a => noA a, fun a ρ H => rfl, fun a w S ρ H => .a fun x hx => by
 obtain ⟨u, hu, rfl⟩ := List.mem_map.1 hx
 simp only [noR, List.mem_cons, List.not_mem_nil, or_false] at hu
 rcases hu with rfl | rfl | rfl | rfl | rfl | rfl | rfl | rfl | rfl | rfl <;> exact .c (.s _)⟩
theorem rd_lkN {N : Nat} {E : Env} {F : Fm} {H : List OB} {o : Oper} {x ix : Operand} {b ck : Nat} {l : List (Nat × (List UInt8 × Int) × Nt)} {k : List UInt8 × Int} {y : Nt} {q : Bool} (hq : (mget l k).getD zN = y) (hq2 : (mget l k).isSome = q) (ho : o.op = .lookup 77 x ix true)
    (hx : ev F x = some (.mp b)) (hH : H[b]? = some (mpO encO encN l ck)) (hi : ev F ix = some (encO.x k)) : Rd Tryz.prog N E o F H (.t [noA y, .c (B q)]) := by
 have := rd_lookupk (N := N) (E := E) (ke := encO) (ve := encN) (k := k) (z := zN) keyO ho Tryz.underlying77 (by kernel_rfl) hx hH hi (fun ρ H => encO.den k ρ H)
 rwa [hq, hq2] at this
theorem ef_muN {N : Nat} {E : Env} {F : Fm} {H : List OB} {o : Oper} {x ix y : Operand} {b ck : Nat} {l : List (Nat × (List UInt8 × Int) × Nt)} {k : List UInt8 × Int} {z : Nt} (ho : o.op = .mapUpdate 77 x ix y) (hd : o.dst = none)
    (hx : ev F x = some (.mp b)) (hH : H[b]? = some (mpO encO encN l ck)) (hi : ev F ix = some (encO.x k)) (hy : ev F y = some (noA z)) : Ef Tryz.prog N E o F H fun F' H' => F' = F ∧ H' = H.set b (mpO encO encN (mset ck k z l) (mclk ck k l)) :=
 ef_mapset (ke := encO) (ve := encN) (k := k) (z := z) keyO ho hd Tryz.underlying77 hx hH hi (fun ρ H => encO.den k ρ H) hy (fun ρ H => encN.den z ρ H)
end Go.Proofs.YtcchlddiggmcaaaGreatDoor
-- NEWM
namespace Go.Proofs.YtcchlddiggmcaaaGreatDoor
open Go Go.RowKit
set_option maxRecDepth 100000
def mrE : Option (List Nt) → Int
 | none => 13
 | some r => if 2000 < r.length then 2 else 0
theorem idxP_find {p : Nt → Bool} : ∀ (l : List Nt) (i : Nat), (idxP p l i < 0 ∧ l.find? p = none) ∨ ∃ (j : Nat) (o : Nt), idxP p l i = ((i + j : Nat) : Int) ∧ l[j]? = some o ∧ l.find? p = some o
 | [], i => .inl ⟨by simp [idxP], rfl⟩
 | x :: l, i => by
  by_cases h : p x = true
  ·exact .inr ⟨0, x, by rw [idxP, if_pos h]; rfl, rfl, by rw [List.find?_cons, h]⟩
  ·rw [idxP, if_neg h, List.find?_cons, show p x = false by simpa using h]
   rcases idxP_find l (i + 1) with ⟨h1, h2⟩ | ⟨j, o, h1, h2, h3⟩
   ·exact .inl ⟨h1, h2⟩
   ·exact .inr ⟨j + 1, o, by rw [h1]; congr 1; omega, by rw [List.getElem?_cons_succ]; exact h2, h3⟩
theorem mn1_v (a b : Nt) : ACalls Tryz.prog 57 [noA a, .p 0 0 0] [.box ((noR b).map .c)] fun u H => u = .c (B (snB a b)) ∧ H = [.box ((noR b).map .c)] := by
 obtain ⟨a0, a1, a2, a3, a4, a5, a6, a7, a8, a9⟩ := a
 obtain ⟨c0, c1, c2, c3, c4, c5, c6, c7, c8, c9⟩ := b
 show ACalls _ _ [.a [.c (T a0), .c (I a1), .c (I a2), .c (I a3), .c (T a4), .c (T a5), .c (T a6), .c (I a7), .c (T a8), .c (I a9)], .p 0 0 0] [.box [.c (T c0), .c (I c1), .c (I c2), .c (I c3), .c (T c4), .c (T c5), .c (T c6), .c (I c7), .c (T c8), .c (I c9)]] fun u H => u = .c (B (snB ⟨a0, a1, a2, a3, a4, a5, a6, a7, a8, a9⟩ ⟨c0, c1, c2, c3, c4, c5, c6, c7, c8, c9⟩)) ∧ H = [.box [.c (T c0), .c (I c1), .c (I c2), .c (I c3), .c (T c4), .c (T c5), .c (T c6), .c (I c7), .c (T c8), .c (I c9)]]
 refine zh (N := 7) Tryz.func57 rfl rfl (by simp) fun E hE => ?_
 refine WA ?_
 refine WR ?_
 refine ze rfl (za false (fun _ => samenote_v ⟨a0, a1, a2, a3, a4, a5, a6, a7, a8, a9⟩ ⟨c0, c1, c2, c3, c4, c5, c6, c7, c8, c9⟩) rfl .fn rfl (by decide) (by kernel_rfl) rfl (fun _ => .cons (.aL (C0 rfl)) (.cons (.aL (C0 rfl)) .nil)) (by simp)) ?_
 rintro _ _ ⟨_, _, _, ⟨rfl, rfl⟩, hF, hH⟩
 (refine NST hF hH ?_; clear hF hH; rintro rfl rfl)
 refine WE ?_
 all_goals exact zg [some 0] [.box [.c (T c0), .c (I c1), .c (I c2), .c (I c3), .c (T c4), .c (T c5), .c (T c6), .c (I c7), .c (T c8), .c (I c9)]] rfl rfl rfl (by decide) (ZNK rfl) ZCH ⟨rfl, rfl⟩
set_option maxHeartbeats 4000000 in
theorem merged_v (va vb : Value) (a b : List Nt) (ha : a.length ≤ 400000) (hb : b.length ≤ 400000) : ACalls Tryz.prog 19 [.c (.r va (noRs a)), .c (.r vb (noRs b))] [] fun u H => ∃ (e : Int) (r : List Nt) (c : Nat), e = mrE (mrg a b) ∧ (e = 0 → ∃ out, mrg a b = some out ∧ r.Perm out ∧ r.Pairwise fun x y => ¬ cmpNt y x < 0) ∧ (e ≠ 0 → r = []) ∧ r.length ≤ c ∧ u = .t [.o 0 0 r.length c, .c (I e)] ∧ H = [.arr 33 10 c (noRs r)] := by
 have e1 : (noRs a).length = a.length := by simp
 have e2 : (noRs b).length = b.length := by simp
 refine zh (N := 40) Tryz.func19 rfl rfl (by simp) fun E hE => ?_
 refine WA ?_
 refine WR ?_
 refine ze rfl (za false (fun _ => cloneN_a (noRs a) va (okNo a) (by omega)) rfl .fn rfl (by decide) (by kernel_rfl) rfl (fun _ => C0 rfl) (by simp)) ?_
 rintro _ _ ⟨_, _, _, ⟨c3, hc3, rfl, rfl⟩, hF, hH⟩
 (refine NST hF hH ?_; clear hF hH; rintro rfl rfl)
 refine WE ?_
 refine WA ?_
 refine zC (fun m F H => ∃ (k : Nat) (out : List Nt) (cp : Nat), m + k = b.length ∧ mrg out (b.drop k) = mrg a b ∧ out.length ≤ cp ∧ out.length ≤ a.length + k ∧ F = [(4, .c (.r (.slice none 0 0) [])), (5, .c (I 0)), (6, .o 0 0 out.length cp), (12, .c (.r vb (noRs b))), (13, .c (I (noRs b).length)), (14, .c (I k))] ∧ H = [.arr 33 10 cp (noRs out)]) ?_ ?_
 ·refine zm [some 0] (fun _ => [(4, .c (.r (.slice none 0 0) [])), (5, .c (I 0)), (6, .o 0 0 a.length c3), (12, .c (.r vb (noRs b))), (13, .c (I (noRs b).length)), (14, .c (I (0 : Nat)))]) (fun _ => [.arr 33 10 c3 (noRs a)]) (by decide) (ZNL hE) (fun g => .cons rfl (.c rfl) (.cons rfl (.c rfl) (.cons rfl (.o rfl (by simp)) (.cons rfl (.c rfl) (.cons rfl (.c rfl) (.cons rfl (.c rfl) .nil)))))) ZCH (fun _ => ?_)
  exact ⟨b.length, 0, a, c3, by omega, rfl, by omega, by omega, rfl, rfl⟩
 rintro m F H ⟨k, out, cp, hk, hf, hcp, hol, rfl, rfl⟩
 have e3 : (noRs out).length = out.length := by simp
 refine WA ?_
 refine zr rfl (fun hlt => ?_) (fun hge => ?_)
 ·obtain ⟨x, hx⟩ : ∃ n, b[k]? = some n := ⟨_, List.getElem?_eq_getElem (by omega)⟩
  have hrow0 := zm1 hx
  rw [drop_at hx] at hf
  have hix0 := fun v' => indexN_v 57 (by kernel_rfl) (fun o => snB o x) x v' out (by omega) (fun o _ => mn1_v o x)
  have hfd := idxP_find (p := fun o => snB o x) out 0
  obtain ⟨st, no, at_, kn, pr, jb, sp, n, of_, ot⟩ := x
  have hrow : (noRs b)[k]? = some [T st, I no, I at_, I kn, T pr, T jb, T sp, I n, T of_, I ot] := hrow0
  have hix : ∀ v', ACalls Tryz.prog 56 [.c (.r v' (noRs out)), .f (.func 57) [.p 0 0 0]] [.box [.c (T st), .c (I no), .c (I at_), .c (I kn), .c (T pr), .c (T jb), .c (T sp), .c (I n), .c (T of_), .c (I ot)]] fun u H => u = .c (I (idxP (fun o => snB o ⟨st, no, at_, kn, pr, jb, sp, n, of_, ot⟩) out 0)) ∧ H = [.box [.c (T st), .c (I no), .c (I at_), .c (I kn), .c (T pr), .c (T jb), .c (T sp), .c (I n), .c (T of_), .c (I ot)]] := hix0
  refine WA ?_
  rcases hfd with ⟨h1, h2⟩ | ⟨j, o, h1, h2, h3⟩
  ·generalize idxP (fun o => snB o ⟨st, no, at_, kn, pr, jb, sp, n, of_, ot⟩) out 0 = ii at hix h1
   rw [mrg_new h2] at hf
   refine WR ?_
   refine ze rfl (zz1 [1] (fun _ => [.box [.c (T st), .c (I no), .c (I at_), .c (I kn), .c (T pr), .c (T jb), .c (T sp), .c (I n), .c (T of_), .c (I ot)]]) true (fun g => hix (g (.o 0 0 out.length cp))) rfl .fn rfl (by decide) (by kernel_rfl) rfl (fun _ => .cons (.frz rfl rfl (by rw [List.drop_zero, List.take_of_length_le (by simp)]) (by simp) rfl) (.cons (.fL (.cons (.p rfl) .nil)) .nil)) (by decide) ZCH (fun _ _ _ _ ⟨hu, hH⟩ => by rw [hu, hH]; exact ⟨.c (.inl trivial), fun o ho => by rw [List.mem_singleton] at ho; subst ho; intro x hx; simp only [List.mem_cons, List.not_mem_nil, or_false] at hx; rcases hx with rfl | rfl | rfl | rfl | rfl | rfl | rfl | rfl | rfl | rfl <;> exact .c (.inl trivial)⟩)) ?_
   rintro F1 H1 ⟨_, _, _, _, ⟨rfl, rfl⟩, hF, hH⟩
   (refine NSU hF hH ?_; clear hF hH; rintro rfl rfl)
   refine WE ?_
   refine WA ?_
   refine zb rfl ?_
   refine ZZ ?_
   refine WR ?_
   refine ze rfl (Zapp (news := [[T st, I no, I at_, I kn, T pr, T jb, T sp, I n, T of_, I ot]]) (j := 1) (hE := KA (t := 26) rfl) (hsrc := .own rfl rfl rfl) (hj := rfl) (hle := by omega)) ?_
   rintro _ _ ⟨_, cc, hcc, rfl, rfl⟩
   refine WE ?_
   refine WA ?_
   refine zm [some 0] (fun _ => [(4, .c (.r (.slice none 0 0) [])), (5, .c (I 0)), (6, .o 0 0 (out.length + 1) cc), (12, .c (.r vb (noRs b))), (13, .c (I (noRs b).length)), (14, .c (I (k + 1 : Nat)))]) (fun _ => [.arr 33 10 cc (noRs out ++ [[T st, I no, I at_, I kn, T pr, T jb, T sp, I n, T of_, I ot]])]) (by decide) (ZNL hE) ZCF ZCH (fun _ => ?_)
   exact ⟨m - 1, by omega, k + 1, out ++ [⟨st, no, at_, kn, pr, jb, sp, n, of_, ot⟩], cc, by omega, hf, by simp at hcc ⊢; omega, by simp; omega, by simp, by simp [noR]⟩
  ·rw [Nat.zero_add] at h1
   rw [h1] at hix
   have hj := (List.getElem?_eq_some_iff.1 h2).1
   have hrowo0 := zm1 h2
   obtain ⟨o0, o1, o2, o3, o4, o5, o6, o7, o8, o9⟩ := o
   have hrowo : (noRs out)[0 + j]? = some [T o0, I o1, I o2, I o3, T o4, T o5, T o6, I o7, T o8, I o9] := by rw [Nat.zero_add]; exact hrowo0
   have hj0 : ¬ (j : Int) < 0 := by omega
   obtain ⟨ne, hne⟩ : ∃ q, decide (¬ (⟨o0, o1, o2, o3, o4, o5, o6, o7, o8, o9⟩ : Nt) = ⟨st, no, at_, kn, pr, jb, sp, n, of_, ot⟩) = q := ⟨_, rfl⟩
   refine WR ?_
   refine ze rfl (zz1 [1] (fun _ => [.box [.c (T st), .c (I no), .c (I at_), .c (I kn), .c (T pr), .c (T jb), .c (T sp), .c (I n), .c (T of_), .c (I ot)]]) true (fun g => hix (g (.o 0 0 out.length cp))) rfl .fn rfl (by decide) (by kernel_rfl) rfl (fun _ => .cons (.frz rfl rfl (by rw [List.drop_zero, List.take_of_length_le (by simp)]) (by simp) rfl) (.cons (.fL (.cons (.p rfl) .nil)) .nil)) (by decide) ZCH (fun _ _ _ _ ⟨hu, hH⟩ => by rw [hu, hH]; exact ⟨.c (.inl trivial), fun o ho => by rw [List.mem_singleton] at ho; subst ho; intro x hx; simp only [List.mem_cons, List.not_mem_nil, or_false] at hx; rcases hx with rfl | rfl | rfl | rfl | rfl | rfl | rfl | rfl | rfl | rfl <;> exact .c (.inl trivial)⟩)) ?_
   rintro F1 H1 ⟨_, _, _, _, ⟨rfl, rfl⟩, hF, hH⟩
   (refine NSU hF hH ?_; clear hF hH; rintro rfl rfl)
   refine WE ?_
   refine WA ?_
   refine zc rfl ?_
   refine ZZ ?_
   refine zo [(0, none), (1, none), (2, none), (3, none), (4, none), (5, none)] zR (by kernel_rfl) ?_
   iterate 5 refine WX2 ?_
   refine ZT rfl (rd_neqN (a := ⟨o0, o1, o2, o3, o4, o5, o6, o7, o8, o9⟩) (b := ⟨st, no, at_, kn, pr, jb, sp, n, of_, ot⟩) hne rfl rfl rfl) ?_
   refine WQ ?_
   cases ne with
   | true =>
    refine zb rfl ?_
    refine ZZ ?_
    refine WA ?_
    rw [mrg_bad h3 (of_decide_eq_true hne)] at hf
    exact zW (us := [.c (.r (.slice none 0 0) []), .c (I 13)]) [none] (fun _ => .t [.o 0 0 0 0, .c (I 13)]) (fun _ => [.arr 33 10 0 []]) (.tmp rfl (.tmp rfl .nil)) (by decide) (ZNK rfl) (fun _ => .tL (.cons (.nil rfl) (.cons (.c rfl) .nil))) ZCH (fun _ => ⟨13, [], 0, by rw [← hf]; rfl, fun h => absurd h (by decide), fun _ => rfl, Nat.le_refl _, rfl, rfl⟩)
   | false =>
    refine zc rfl ?_
    refine ZZ ?_
    refine WA ?_
    refine zm [some 0] (fun _ => [(4, .c (.r (.slice none 0 0) [])), (5, .c (I 0)), (6, .o 0 0 out.length cp), (12, .c (.r vb (noRs b))), (13, .c (I (noRs b).length)), (14, .c (I (k + 1 : Nat)))]) (fun _ => [.arr 33 10 cp (noRs out)]) (by decide) (ZNL hE) ZCF ZCH (fun _ => ?_)
    exact ⟨m - 1, by omega, k + 1, out, cp, by omega, by rw [← hf, mrg_old (by rw [fndN, h3, Decidable.not_not.1 (of_decide_eq_false hne)])], hcp, by omega, rfl, rfl⟩
 rw [List.drop_eq_nil_of_le (by omega)] at hf
 have hm : mrg a b = some out := by rw [← hf]; rfl
 refine ZZ ?_
 refine WR ?_
 refine ze rfl (zc2 [0] (fun _ => [.arr 33 10 cp (noRs out)]) false (fun _ => sortN_v 43 (by kernel_rfl) norder_v out cp (by omega)) rfl .fn rfl (by decide) (by kernel_rfl) rfl ZCH (by decide) ZCH (by simp)) ?_
 rintro F1 H1 ⟨_, _, _, _, ⟨r, ⟨hrp, hrs⟩, rfl, rfl⟩, hF, hH⟩
 rw [zn1] at hF; (refine NSU hF hH ?_; clear hF hH; rintro rfl rfl)
 refine WE ?_
 have hrl := hrp.length_eq
 refine WA ?_
 refine zr rfl (fun h0 => ?_) (fun h0 => ?_)
 ·refine WA ?_
  exact zW (us := [.c (.r (.slice none 0 0) []), .c (I 2)]) [none] (fun _ => .t [.o 0 0 0 0, .c (I 2)]) (fun _ => [.arr 33 10 0 []]) (.tmp rfl (.tmp rfl .nil)) (by decide) (ZNK rfl) (fun _ => .tL (.cons (.nil rfl) (.cons (.c rfl) .nil))) ZCH (fun _ => ⟨2, [], 0, by rw [hm, mrE, if_pos (by omega)], fun h => absurd h (by decide), fun _ => rfl, Nat.le_refl _, rfl, rfl⟩)
 ·refine ZZ ?_
  refine WA ?_
  exact zW (us := [.o 0 0 out.length cp, .c (I 0)]) [some 0] (fun _ => .t [.o 0 0 r.length cp, .c (I 0)]) (fun _ => [.arr 33 10 cp (noRs r)]) (.tmp rfl (.tmp rfl .nil)) (by decide) (ZNK rfl) (fun _ => .tL (.cons (.o rfl hrl.symm) (.cons (.c rfl) .nil))) ZCH (fun _ => ⟨0, r, cp, by rw [hm, mrE, if_neg (by omega)], fun _ => ⟨out, hm, hrp, hrs⟩, fun h => absurd rfl h, by omega, rfl, rfl⟩)
end Go.Proofs.YtcchlddiggmcaaaGreatDoor
