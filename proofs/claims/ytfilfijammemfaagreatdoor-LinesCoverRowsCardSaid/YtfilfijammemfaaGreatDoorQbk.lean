/- Lists turned round; rows of lists: plain. -/
import Derived.Test.YtfilfijammemfaaGreatDoorQbj
import Derived.Test.YtfilfijammemfaaGreatDoorQbg
import Derived.Test.YtfilfijammemfaaGreatDoorQbh
import Derived.Test.YtfilfijammemfaaGreatDoorQbi
import Derived.Test.YtfilfijammemfaaGreatDoorQao
set_option linter.unusedSimpArgs false
set_option linter.unusedVariables false
-- NEWM
namespace Go.Proofs.YtfilfijammemfaaGreatDoor
open Go Go.RowKit Go.Shelf
set_option maxRecDepth 100000
theorem turned_v (p : Spot) (q : Int) : ACalls Tryz.prog 93 [.a [.c (I p.1), .c (I p.2)], .c (I q)] [] fun u H => u = .a [.c (I (trQ q p).1), .c (I (trQ q p).2)] ∧ H = [] := by
 obtain ⟨a, b⟩ := p
 refine ze (N := 13) Tryz.func93 rfl rfl (by simp) fun E hE => ?_
 by_cases hq : q = 1
 ·rw [trQ, if_pos hq]
  refine WA ?_
  refine WA ?_
  refine zb rfl ?_
  refine WA ?_
  exact aret_a [] _ rfl (KK (t := 162) rfl) rfl (Cells.box rfl) (by first | (simp; done) | exact Nat.le_refl 2) (by (try simp only [nm, putL, Nat.reduceAdd, cellsOf, cvOf]) <;> rfl) (by decide) (ZNK rfl) (fun _ => C0 rfl) (fun _ => .nil) ⟨rfl, rfl⟩
 ·rw [trQ, if_neg hq]
  refine WA ?_
  refine WA ?_
  refine zd rfl ?_
  refine ZZ ?_
  refine WA ?_
  exact aret_a [] _ rfl (KK (t := 162) rfl) rfl (Cells.box rfl) (by first | (simp; done) | exact Nat.le_refl 2) (by (try simp only [nm, putL, Nat.reduceAdd, cellsOf, cvOf]) <;> rfl) (by decide) (ZNK rfl) (fun _ => C0 rfl) (fun _ => .nil) ⟨rfl, rfl⟩
theorem hasl_v (c r : Int) (pv va : Value) (L : List Spot) (hl : L.length ≤ 1000000000) : ACalls Tryz.prog 94 [.c (I c), .c (I r), .c (.p pv [.r va (sR L)])] [] fun u H => u = .c (B (hasL L r c)) ∧ H = [] := by
 refine ze (N := 11) Tryz.func94 rfl rfl (by simp) fun E hE => ?_
 refine WA ?_
 refine ZR ?_
 refine ZA (zO rfl (by kernel_rfl) rfl rfl) ?_
 refine WO ?_
 refine zf rfl (za false (fun _ => haspl_v c r L va hl) rfl .fn rfl (by decide) (by kernel_rfl) rfl (fun _g => .cons (.c rfl) (.cons (.aL (C0 rfl)) .nil)) (by simp)) ?_
 rintro _ _ ⟨_, _, _, ⟨rfl, rfl⟩, hF, hH⟩
 (refine NST hF hH ?_; clear hF hH; rintro rfl rfl)
 refine WE ?_
 exact zi [] _ rfl rfl rfl (by decide) (ZNK rfl) (fun _ => .nil) ⟨rfl, rfl⟩
def cmpLs : List Int → List Int → Int
 | [], [] => 0
 | [], _ :: _ => -1
 | _ :: _, [] => 1
 | x :: a, y :: b => if cmpI x y ≠ 0 then cmpI x y else cmpLs a b
theorem drop_c {l : List Int} {k : Nat} {n : Int} (h : l[k]? = some n) : l.drop k = n :: l.drop (k + 1) := by
 obtain ⟨h1, h2⟩ := List.getElem?_eq_some_iff.1 h
 rw [List.drop_eq_getElem_cons h1, h2]
set_option maxHeartbeats 1000000 in
theorem compare_v (a b : List Int) (va vb : Value) (ha : a.length ≤ 1000000) (hb : b.length ≤ 1000000) : ACalls Tryz.prog 98 [.c (.r va (nR a)), .c (.r vb (nR b))] [] fun u H => u = .c (I (cmpLs a b)) ∧ H = [] := by
 have e1 : (nR a).length = a.length := by simp
 have e2 : (nR b).length = b.length := by simp
 refine ze (N := 36) Tryz.func98 rfl rfl (by simp) fun E hE => ?_
 refine WA ?_
 refine WA ?_
 refine zk (fun m F H => ∃ (k : Nat), m + k = a.length ∧ k ≤ b.length ∧ cmpLs (a.drop k) (b.drop k) = cmpLs a b ∧ F = [(0, .c (.r va (nR a))), (1, .c (.r vb (nR b))), (9, .c (.r va (nR a))), (10, .c (I (nR a).length)), (11, .c (I k))] ∧ H = []) ?_ ?_
 ·refine zh [] (fun _ => [(0, .c (.r va (nR a))), (1, .c (.r vb (nR b))), (9, .c (.r va (nR a))), (10, .c (I (nR a).length)), (11, .c (I (0 : Nat)))]) (fun _ => []) (by decide) (ZNL hE) ZCF (fun _ => .nil) (fun _ => ?_)
  exact ⟨a.length, 0, by omega, by omega, rfl, rfl, rfl⟩
 rintro m F H ⟨k, hk, hkb, hf, rfl, rfl⟩
 refine WA ?_
 refine zl rfl (fun hlt => ?_) (fun hge => ?_)
 ·obtain ⟨x, hx⟩ : ∃ n, a[k]? = some n := ⟨_, List.getElem?_eq_getElem (by omega)⟩
  have hrow : (nR a)[k]? = some [I x] := by rw [List.getElem?_map, hx]; rfl
  have hd := drop_c hx
  rw [hd] at hf
  refine WA ?_
  refine WA ?_
  refine zl rfl (fun h1 => ?_) (fun h1 => ?_)
  ·have hv : cmpLs a b = 1 := by rw [← hf, List.drop_eq_nil_of_le (show b.length ≤ k by omega)]; rfl
   rw [hv]
   refine WA ?_
   exact zi [] _ rfl rfl rfl (by decide) (ZNK rfl) (fun _ => .nil) ⟨rfl, rfl⟩
  obtain ⟨y, hy⟩ : ∃ n, b[k]? = some n := ⟨_, List.getElem?_eq_getElem (by omega)⟩
  have hrow2 : (nR b)[k]? = some [I y] := by rw [List.getElem?_map, hy]; rfl
  rw [drop_c hy, cmpLs] at hf
  refine ZZ ?_
  refine WA ?_
  refine WR ?_
  refine zf rfl (za false (fun _ => cmpI_v _ _) rfl .fn rfl (by decide) (by kernel_rfl) rfl (fun _g => .cons (.c rfl) (.cons (.c rfl) .nil)) (by simp)) ?_
  rintro _ _ ⟨_, _, _, ⟨rfl, rfl⟩, hF, hH⟩
  (refine NST hF hH ?_; clear hF hH; rintro rfl rfl)
  refine WE ?_
  generalize cmpI x y = z at *
  refine WA ?_
  refine zl rfl (fun h0 => ?_) (fun h0 => ?_)
  ·rw [if_pos h0] at hf
   rw [← hf]
   refine WA ?_
   exact zi [] _ rfl rfl rfl (by decide) (ZNK rfl) (fun _ => .nil) ⟨rfl, rfl⟩
  ·rw [if_neg h0] at hf
   refine ZZ ?_
   refine WA ?_
   refine zh [] (fun _ => [(0, .c (.r va (nR a))), (1, .c (.r vb (nR b))), (9, .c (.r va (nR a))), (10, .c (I (nR a).length)), (11, .c (I (k + 1 : Nat)))]) (fun _ => []) (by decide) (ZNL hE) ZCF (fun _ => .nil) (fun _ => ?_)
   exact ⟨m - 1, by omega, k + 1, by omega, by omega, hf, rfl, rfl⟩
 rw [List.drop_eq_nil_of_le (show a.length ≤ k by omega)] at hf
 refine ZZ ?_
 refine WA ?_
 refine zl rfl (fun h0 => ?_) (fun h0 => ?_)
 ·have hv : cmpLs a b = -1 := by
   rw [← hf]
   cases hb2 : b.drop k with
   | nil => have := List.drop_eq_nil_iff.1 hb2; omega
   | cons y l => rfl
  rw [hv]
  refine WA ?_
  exact zi [] _ rfl rfl rfl (by decide) (ZNK rfl) (fun _ => .nil) ⟨rfl, rfl⟩
 ·have hv : cmpLs a b = 0 := by rw [← hf, List.drop_eq_nil_of_le (show b.length ≤ k by omega)]; rfl
  rw [hv]
  refine ZZ ?_
  refine WA ?_
  exact zi [] _ rfl rfl rfl (by decide) (ZNK rfl) (fun _ => .nil) ⟨rfl, rfl⟩
def cmpLn (a b : Lin) : Int := cmpLs [a.1, a.2.1] [b.1, b.2.1]
theorem cmpN_lt {m n : Int} : cmpI m n < 0 ↔ m < n := by unfold cmpI; split <;> (try split) <;> omega
theorem cmpN_0 {m n : Int} : cmpI m n = 0 ↔ m = n := by unfold cmpI; split <;> (try split) <;> omega
theorem cmpLn_lt (a b : Lin) : cmpLn a b < 0 ↔ ltL a b := by
 have h1 := @cmpN_lt a.1 b.1
 have h2 := @cmpN_0 a.1 b.1
 have h3 := @cmpN_lt a.2.1 b.2.1
 have h4 := @cmpN_0 a.2.1 b.2.1
 unfold cmpLn ltL
 simp only [cmpLs]
 split
 ·omega
 ·split <;> omega
theorem cmpLn_v (a b : Lin) : ACalls Tryz.prog 97 [.a [.c (I a.1), .c (I a.2.1), .c (I a.2.2)], .a [.c (I b.1), .c (I b.2.1), .c (I b.2.2)]] [] fun u H => u = .c (I (cmpLn a b)) ∧ H = [] := by
 obtain ⟨a1, a2, a3⟩ := a
 obtain ⟨b1, b2, b3⟩ := b
 refine ze (N := 16) Tryz.func97 rfl rfl (by simp) fun E hE => ?_
 refine WA ?_
 refine WR ?_
 refine zf rfl (za true (fun g => compare_v [a1, a2] [b1, b2] (g (.o _ 0 2 2)) (g (.o _ 0 2 2)) (by simp) (by simp)) rfl .fn rfl (by decide) (by kernel_rfl) rfl (fun _ => .cons (.frz rfl rfl rfl rfl rfl) (.cons (.frz rfl rfl rfl rfl rfl) .nil)) (fun _ _ _ _ ⟨hu, hH⟩ => by rw [hu, hH]; exact ⟨.c (.inl trivial), by simp⟩)) ?_
 rintro _ _ ⟨_, _, _, ⟨rfl, rfl⟩, hF, hH⟩
 (refine NST hF hH ?_; clear hF hH; rintro rfl rfl)
 refine WE ?_
 exact zi [] _ rfl rfl rfl (by decide) (ZNK rfl) (fun _ => .nil) ⟨rfl, rfl⟩
def sortLnL_ren : Go.Shelf.Ren := ⟨fun | 6 => 96 | 15 => 138 | 14 => 137 | 28 => 180 | 29 => 181 | 20 => 172 | 21 => 173 | 22 => 174 | 23 => 175 | 24 => 176 | 25 => 177 | 26 => 178 | 27 => 179 | 46 => 216 | 47 => 217 | 48 => 218 | 49 => 219 | 50 => 220 | 57 => 254 | n => n, fun | 22 => 93 | 24 => 96 | 25 => 167 | 3 => 3 | 39 => 208 | 0 => 0 | 53 => 248 | 55 => 251 | 4 => 4 | 46 => 261 | 45 => 260 | 50 => 265 | 5 => 5 | 9 => 9 | 66 => 307 | 70 => 311 | 76 => 358 | 77 => 359 | n => n, fun | n => n⟩
theorem sortLnL : Go.Proofs.SlLaysF0.n6 Tryz.prog sortLnL_ren := {
 mixed := by kernel_rfl
 f6 := ⟨Tryz.f96.name, by decide, Tryz.func96.trans (congrArg some (by kernel_rfl))⟩
 f14 := ⟨Tryz.f137.name, by decide, Tryz.func137.trans (congrArg some (by kernel_rfl))⟩
 f15 := Tryz.func138.trans (congrArg some (by kernel_rfl))
 f20 := ⟨Tryz.f172.name, by decide, Tryz.func172.trans (congrArg some (by kernel_rfl))⟩
 f21 := ⟨Tryz.f173.name, by decide, Tryz.func173.trans (congrArg some (by kernel_rfl))⟩
 f22 := ⟨Tryz.f174.name, by decide, Tryz.func174.trans (congrArg some (by kernel_rfl))⟩
 f23 := ⟨Tryz.f175.name, by decide, Tryz.func175.trans (congrArg some (by kernel_rfl))⟩
 f24 := ⟨Tryz.f176.name, by decide, Tryz.func176.trans (congrArg some (by kernel_rfl))⟩
 f25 := ⟨Tryz.f177.name, by decide, Tryz.func177.trans (congrArg some (by kernel_rfl))⟩
 f26 := ⟨Tryz.f178.name, by decide, Tryz.func178.trans (congrArg some (by kernel_rfl))⟩
 f27 := ⟨Tryz.f179.name, by decide, Tryz.func179.trans (congrArg some (by kernel_rfl))⟩
 f28 := Tryz.func180.trans (congrArg some (by kernel_rfl))
 f29 := Tryz.func181.trans (congrArg some (by kernel_rfl))
 f46 := ⟨Tryz.f216.name, by decide, Tryz.func216.trans (congrArg some (by kernel_rfl))⟩
 f47 := Tryz.func217.trans (congrArg some (by kernel_rfl))
 f48 := Tryz.func218.trans (congrArg some (by kernel_rfl))
 f49 := ⟨Tryz.f219.name, by decide, Tryz.func219.trans (congrArg some (by kernel_rfl))⟩
 f50 := ⟨Tryz.f220.name, by decide, Tryz.func220.trans (congrArg some (by kernel_rfl))⟩
 f57 := ⟨Tryz.f254.name, by decide, Tryz.func254.trans (congrArg some (by kernel_rfl))⟩
 t0 := Tryz.underlying0
 a0 := Tryz.isAgg0
 z0 := Tryz.sizeOf0
 v0 := Tryz.zeroValue0
 t3 := Tryz.underlying3
 a3 := Tryz.isAgg3
 z3 := Tryz.sizeOf3
 v3 := Tryz.zeroValue3
 t4 := Tryz.underlying4
 a4 := Tryz.isAgg4
 z4 := Tryz.sizeOf4
 v4 := Tryz.zeroValue4
 t5 := Tryz.underlying5
 a5 := Tryz.isAgg5
 z5 := Tryz.sizeOf5
 v5 := Tryz.zeroValue5
 t9 := Tryz.underlying9
 a9 := Tryz.isAgg9
 z9 := Tryz.sizeOf9
 v9 := Tryz.zeroValue9
 t22 := Tryz.underlying93
 a22 := Tryz.isAgg93
 z22 := Tryz.sizeOf93
 v22 := Tryz.zeroValue93
 t25 := Tryz.underlying167
 a25 := Tryz.isAgg167
 z25 := Tryz.sizeOf167
 v25 := Tryz.zeroValue167
 t39 := Tryz.underlying208
 a39 := Tryz.isAgg208
 z39 := Tryz.sizeOf208
 v39 := Tryz.zeroValue208
 t45 := Tryz.underlying260
 a45 := Tryz.isAgg260
 z45 := Tryz.sizeOf260
 v45 := Tryz.zeroValue260
 t46 := Tryz.underlying261
 a46 := Tryz.isAgg261
 z46 := Tryz.sizeOf261
 v46 := Tryz.zeroValue261
 t50 := Tryz.underlying265
 a50 := Tryz.isAgg265
 z50 := Tryz.sizeOf265
 v50 := Tryz.zeroValue265
 t53 := Tryz.underlying248
 a53 := Tryz.isAgg248
 z53 := Tryz.sizeOf248
 v53 := Tryz.zeroValue248
 t55 := Tryz.underlying251
 a55 := Tryz.isAgg251
 z55 := Tryz.sizeOf251
 v55 := Tryz.zeroValue251
 t66 := Tryz.underlying307
 a66 := Tryz.isAgg307
 z66 := Tryz.sizeOf307
 v66 := Tryz.zeroValue307
 t70 := Tryz.underlying311
 a70 := Tryz.isAgg311
 z70 := Tryz.sizeOf311
 v70 := Tryz.zeroValue311
 t76 := Tryz.underlying358
 a76 := Tryz.isAgg358
 z76 := Tryz.sizeOf358
 v76 := Tryz.zeroValue358
 t77 := Tryz.underlying359
 a77 := Tryz.isAgg359
 z77 := Tryz.sizeOf359
 v77 := Tryz.zeroValue359 }
def linOf : List CV → Lin
 | [.s (.int _ a), .s (.int _ b), .s (.int _ c)] => (a, b, c)
 | _ => (0, 0, 0)
theorem sortLn_v (l : List Lin) (c : Nat) (hl : l.length ≤ 1000000) : ACallsX true Tryz.prog 96 [.o 0 0 l.length c, .f (.func 97) []] [.arr 96 3 c (lnR l)] fun u H => ∃ l' : List Lin, (l'.Perm l ∧ l'.Pairwise leL) ∧ u = .t [] ∧ H = [.arr 96 3 c (lnR l')] := by
 have h := acalls_sort sortLnL (k := 3) (fun w => Tryz.isAgg96 w) (fun w => Tryz.sizeOf96 w) (fun x => ∃ s : Lin, x = [I s.1, I s.2.1, I s.2.2]) (fun x y => cmpLn (linOf x) (linOf y)) (g := 97) (by kernel_rfl)
  (by rintro _ ⟨s, rfl⟩; rw [cmpLn_lt]; exact ltL_irr)
  (by rintro _ _ _ ⟨a, rfl⟩ ⟨b, rfl⟩ ⟨c, rfl⟩; simp only [cmpLn_lt, linOf]; unfold ltL; omega)
  (by rintro _ _ _ ⟨a, rfl⟩ ⟨b, rfl⟩ ⟨c, rfl⟩; simp only [cmpLn_lt, linOf]; unfold ltL; omega)
  (by rintro _ _ ⟨a, rfl⟩ ⟨b, rfl⟩; exact cmpLn_v a b)
  (lnR l) (by intro r hr; obtain ⟨s, _, rfl⟩ := List.mem_map.1 hr; exact ⟨s, rfl⟩) (by simp; omega) (e := 96) (cap := c) (n := l.length) (c := c) (pn := true) (by simp)
 refine ACallsX.mono h fun u H => ?_
 rintro ⟨rows', rfl, rfl, hp, hs⟩
 have hm : (lnR l).map linOf = l := by
  rw [List.map_map]
  exact (List.map_congr_left fun s _ => rfl).trans (List.map_id l)
 have hrow : ∀ r ∈ rows', ∃ s : Lin, r = [I s.1, I s.2.1, I s.2.2] := fun r hr => by
  obtain ⟨s, _, rfl⟩ := List.mem_map.1 (hp.subset hr); exact ⟨s, rfl⟩
 refine ⟨rows'.map linOf, ⟨by have h2 := hp.map linOf; rwa [hm] at h2, ?_⟩, rfl, ?_⟩
 ·rw [List.pairwise_map]
  refine hs.imp fun {a b} h => ?_
  rw [cmpLn_lt] at h
  unfold ltL at h; unfold leL; omega
 ·congr 2
  rw [lnR, List.map_map]
  refine (List.map_id _).symm.trans (List.map_congr_left fun r hr => ?_)
  obtain ⟨s, rfl⟩ := hrow r hr
  rfl
end Go.Proofs.YtfilfijammemfaaGreatDoor
-- NEWM
namespace Go.Proofs.YtfilfijammemfaaGreatDoor
open Go Go.RowKit
set_option maxRecDepth 100000
abbrev trL (q : Int) (l : List Spot) : List Spot := l.map (trQ q)
theorem trL_in {q : Int} {l : List Spot} {p : Spot} : p ∈ trL q l ↔ trQ q p ∈ l := by
 rw [List.mem_map]
 constructor
 ·rintro ⟨a, h, rfl⟩; rw [trQ_tr]; exact h
 ·intro h; exact ⟨_, h, trQ_tr⟩
theorem trL_nodup {q : Int} {l : List Spot} (h : l.Nodup) : (trL q l).Nodup := by
 rw [List.nodup_iff_pairwise_ne, List.pairwise_map]
 exact h.imp fun {a b} hab e => hab (by rw [← trQ_tr (q := q) (p := a), e, trQ_tr])
set_option maxHeartbeats 4000000 in
theorem linesin0_v (va0 : Value) (c0 : Cel) (q ev ph : Int) (hc : RCel c0) (hev : 1 ≤ ev) (hph : -1000000 ≤ ph ∧ ph ≤ 1000000) (L : List Spot) (hLL : trL q (covL c0) = L) (hbd : ∀ p ∈ L, (-10000000 ≤ p.1 ∧ p.1 ≤ 10000000) ∧ (-10000000 ≤ p.2 ∧ p.2 ≤ 10000000)) (hend : ∀ r c : Int, -10000000 ≤ c → (∀ j : Int, c ≤ j → j ≤ c + 1000 → hasL L r j = true) → False) : ACalls Tryz.prog 52 [celA va0 c0, .c (I q), .c (I ev), .c (I ph)] [] fun u H => ∃ (v : Value) (l : List Lin), u = .c (.r v (lnR l)) ∧ (l.Perm (linL L L ev ph) ∧ l.Pairwise leL) ∧ H = [] := by
 have hpl : ACalls Tryz.prog 92 [celA va0 c0] [] fun u H => ∃ v, u = .c (.r v (sR (covL c0))) ∧ H = [] := by
  have h1 := hc.st
  have h2 := hc.far
  have h3 := hc.h
  have h4 := hc.w
  exact places_v va0 c0 (by omega) (by omega) (by omega) (by omega) (fun r hr => by rw [(hc.row r hr).1]; omega)
 have hlen : (covL c0).length ≤ 100000 := by
  have h3 := hc.h
  have h4 := hc.w
  have := hitC_len (x := c0.x.tdiv c0.st) (M := 200) (rs := c0.rows) (y := c0.y.tdiv c0.st) (fun r hr => by rw [(hc.row r hr).1]; exact h4)
  have h5 : c0.rows.length * 200 ≤ 200 * 200 := Nat.mul_le_mul_right _ h3
  unfold covL
  omega
 have hLn : L.length ≤ 100000 := by rw [← hLL]; simp; omega
 have hL9 : L.length ≤ 1000000000 := by omega
 generalize covL c0 = P0 at *
 have e1 : (sR P0).length = P0.length := by simp
 have e2 : (sR L).length = L.length := by simp
 refine ze (N := 77) Tryz.func52 rfl rfl (by simp) fun E hE => ?_
 refine WA ?_
 refine WA ?_
 refine WR ?_
 refine zf rfl (za false (fun _ => hpl) rfl .fn rfl (by decide) (by kernel_rfl) rfl (fun _ => C0 rfl) (by simp)) ?_
 rintro _ _ ⟨_, _, _, ⟨vp, rfl, rfl⟩, hF, hH⟩
 (refine NST hF hH ?_; clear hF hH; rintro rfl rfl)
 refine WE ?_
 refine zk (fun m F H => ∃ (k cp : Nat), m + k = P0.length ∧ F = [(1, .c (I q)), (2, .c (I ev)), (3, .c (I ph)), (9, .p 0 0 0), (18, .c (.r vp (sR P0))), (19, .c (I (sR P0).length)), (20, .c (I k))] ∧ H = [.box [.o 1 0 (trL q (P0.take k)).length cp], .arr 162 2 cp (sR (trL q (P0.take k)))]) ?_ ?_
 ·refine zh [some 1, none] (fun _ => [(1, .c (I q)), (2, .c (I ev)), (3, .c (I ph)), (9, .p 0 0 0), (18, .c (.r vp (sR P0))), (19, .c (I (sR P0).length)), (20, .c (I (0 : Nat)))]) (fun _ => [.box [.o 1 0 0 0], .arr 162 2 0 (sR [])]) (by decide) (ZNL hE) ZCF ZCH (fun _ => ?_)
  exact ⟨P0.length, 0, 0, by omega, rfl, rfl⟩
 rintro m F H ⟨k, cp, hk, rfl, rfl⟩
 refine WA ?_
 refine zl rfl (fun hlt => ?_) (fun hge => ?_)
 ·obtain ⟨⟨x, y⟩, hx⟩ : ∃ e, P0[k]? = some e := ⟨_, List.getElem?_eq_getElem (by omega)⟩
  have hrow : (sR P0)[k]? = some [I x, I y] := by rw [List.getElem?_map, hx]; rfl
  have htk : trL q (P0.take (k + 1)) = trL q (P0.take k) ++ [trQ q (x, y)] := by rw [List.take_add_one, hx]; simp
  have hle : (trL q (P0.take k)).length ≤ 1000000 := by simp; omega
  generalize trL q (P0.take k) = A at *
  refine WA ?_
  refine ZZ ?_
  refine zg [(0, none), (1, none), (2, none), (3, some [0]), (4, some [0]), (5, some []), (6, some [])] zn (by kernel_rfl) ?_
  refine WP ?_
  refine zY rfl rfl (za false (fun _ => turned_v (x, y) q) rfl .fn rfl (by decide) (by kernel_rfl) rfl (fun _ => C0 rfl) (by simp)) ?_
  rintro _ _ ⟨_, _, _, ⟨rfl, rfl⟩, hF, hH⟩
  (refine NST hF hH ?_; clear hF hH; rintro rfl rfl)
  refine ⟨zj (by first | exact zu rfl rfl rfl (ZL (KK (t := 159) rfl)) rfl) (zm), ?_⟩
  refine WP ?_
  refine zY rfl rfl (Zapp (KA (t := 159) rfl)) ?_
  rintro _ _ ⟨_, cc, hcc, rfl, rfl⟩
  refine ⟨zm, ?_⟩
  refine WQ ?_
  all_goals (
   refine WA ?_
   refine zh [some 0, some 1] (fun _ => [(1, .c (I q)), (2, .c (I ev)), (3, .c (I ph)), (9, .p 0 0 0), (18, .c (.r vp (sR P0))), (19, .c (I (sR P0).length)), (20, .c (I (k + 1 : Nat)))]) (fun _ => [.box [.o 1 0 (A ++ [trQ q (x, y)]).length cc], .arr 162 2 cc (sR (A ++ [trQ q (x, y)]))]) (by decide) (ZNL hE) ZCF ZCH (fun _ => ?_)
   exact ⟨m - 1, by omega, k + 1, cc, by omega, rfl, by rw [htk]⟩)
 obtain rfl : k = P0.length := by omega
 rw [List.take_length, hLL]
 refine ZZ ?_
 refine zC1 (zh (K := fun F H => ∃ pv va, F = [(2, .c (I ev)), (3, .c (I ph)), (9, .c (.p pv [.r va (sR L)]))] ∧ H = []) [] (fun g => [(2, .c (I ev)), (3, .c (I ph)), (9, .c (.p (g (.p 0 0 0)) [.r (g (.o 1 0 L.length cp)) (sR L)]))]) (fun _ => []) (by decide) (ZNL hE) (fun _ => .cons rfl (.c rfl) (.cons rfl (.c rfl) (.cons rfl (frzpL rfl rfl (.cons (.frz (b := 1) rfl rfl (by rw [List.drop_zero, List.take_of_length_le (by simp)]) (by simp) rfl) .nil)) .nil))) ZCH (fun _ => ⟨_, _, rfl, rfl⟩)) ?_
 rintro F H ⟨pv, va, rfl, rfl⟩
 refine WA ?_
 refine WA ?_
 refine ZR ?_
 refine ZA (zO rfl (by kernel_rfl) rfl rfl) ?_
 refine WE ?_
 have hsn : ∀ (k : Nat) p, L[k]? = some p → linL L (L.take (k + 1)) ev ph = linL L (L.take k) ev ph ++ (if begL L ev ph p = true then [(p.2, p.1, rE (hasL L p.2) 1000 p.1)] else []) := fun k p h => by rw [List.take_add_one, h]; exact linL_snoc
 have hln : ∀ k : Nat, (linL L (L.take k) ev ph).length ≤ k := fun k => by
  unfold linL
  rw [List.length_map]
  exact Nat.le_trans (List.length_filter_le _ _) (by rw [List.length_take]; omega)
 refine zk (fun m F H => ∃ (k cp : Nat), m + k = L.length ∧ F = [(2, .c (I ev)), (3, .c (I ph)), (12, .f (.func 94) [.c (.p pv [.r va (sR L)])]), (13, .o 0 0 (linL L (L.take k) ev ph).length cp), (32, .c (.r va (sR L))), (33, .c (I (sR L).length)), (34, .c (I k))] ∧ H = [.arr 96 3 cp (lnR (linL L (L.take k) ev ph))]) ?_ ?_
 ·refine zh [none] (fun _ => [(2, .c (I ev)), (3, .c (I ph)), (12, .f (.func 94) [.c (.p pv [.r va (sR L)])]), (13, .o 0 0 0 0), (32, .c (.r va (sR L))), (33, .c (I (sR L).length)), (34, .c (I (0 : Nat)))]) (fun _ => [.arr 96 3 0 (lnR [])]) (by decide) (ZNL hE) ZCF ZCH (fun _ => ?_)
  exact ⟨L.length, 0, 0, by omega, rfl, rfl⟩
 clear cp
 rintro m F H ⟨k, cp, hk, rfl, rfl⟩
 have hlnk := hln k
 have hsnk := hsn k
 generalize hA : linL L (L.take k) ev ph = A at *
 refine WA ?_
 refine zl rfl (fun hlt => ?_) (fun hge => ?_)
 ·obtain ⟨⟨c, r⟩, hx⟩ : ∃ e, L[k]? = some e := ⟨_, List.getElem?_eq_getElem (by omega)⟩
  have hrow : (sR L)[k]? = some [I c, I r] := by rw [List.getElem?_map, hx]; rfl
  have hsk := hsnk _ hx
  have hcr := hbd _ (List.mem_of_getElem? hx)
  simp only at hcr hsk
  obtain ⟨rm, hrm⟩ : ∃ z, (r - ph).tmod ev = z := ⟨_, rfl⟩
  obtain ⟨b, hb⟩ : ∃ b, hasL L r (c - 1) = b := ⟨_, rfl⟩
  have hbg : begL L ev ph (c, r) = (decide (rm = 0) && !b) := by rw [← hrm, ← hb]; rfl
  rw [hbg] at hsk
  clear hsnk hsn hln
  refine WA ?_
  by_cases h0 : rm = 0
  ·rw [decide_eq_true h0, Bool.true_and] at hsk
   cases b with
   | true =>
    rw [if_neg (by simp), List.append_nil] at hsk
    refine ZR ?_
    iterate 5 refine WX1 ?_
    refine ZA (zl1 hrm rfl rfl rfl (by omega)) ?_
    refine WO ?_
    first | refine ZS ?_ | (refine G1 rfl ?_; refine zf rfl (za false (fun _ => hasl_v (c - 1) r pv va L hL9) rfl (.clo rfl) rfl (by decide) (by kernel_rfl) rfl (fun _ => C0 rfl) (by simp)) ?_; rintro _ _ ⟨_, _, _, ⟨rfl, rfl⟩, hF, hH⟩; rw [hb] at hF; (refine NST hF hH ?_; clear hF hH; rintro rfl rfl)) | skip
    refine WE ?_
    refine zb rfl ?_
    refine WA ?_
    refine zh [some 0] (fun _ => [(2, .c (I ev)), (3, .c (I ph)), (12, .f (.func 94) [.c (.p pv [.r va (sR L)])]), (13, .o 0 0 (A).length cp), (32, .c (.r va (sR L))), (33, .c (I (sR L).length)), (34, .c (I (k + 1 : Nat)))]) (fun _ => [.arr 96 3 cp (lnR (A))]) (by decide) (ZNL hE) ZCF ZCH (fun _ => ?_)
    exact ⟨m - 1, by omega, k + 1, cp, by omega, by rw [hsk], by rw [hsk]⟩
   | false =>
    rw [if_pos (show (!false) = true from rfl)] at hsk
    refine ZR ?_
    iterate 5 refine WX1 ?_
    refine ZA (zl1 hrm rfl rfl rfl (by omega)) ?_
    refine WO ?_
    first | refine ZS ?_ | (refine G1 rfl ?_; refine zf rfl (za false (fun _ => hasl_v (c - 1) r pv va L hL9) rfl (.clo rfl) rfl (by decide) (by kernel_rfl) rfl (fun _ => C0 rfl) (by simp)) ?_; rintro _ _ ⟨_, _, _, ⟨rfl, rfl⟩, hF, hH⟩; rw [hb] at hF; (refine NST hF hH ?_; clear hF hH; rintro rfl rfl)) | skip
    refine WE ?_
    refine zd rfl ?_
    refine ZZ ?_
    refine WA ?_
    have hen := hend r c (by omega)
    generalize hEE : rE (hasL L r) 1000 c = EE at *
    refine zk (fun m3 F H => ∃ (c2 : Int), c ≤ c2 ∧ c2 + m3 = c + 1000 ∧ (∀ j : Int, c < j → j ≤ c2 → hasL L r j = true) ∧ rE (hasL L r) m3 c2 = EE ∧ F = [(2, .c (I ev)), (3, .c (I ph)), (12, .f (.func 94) [.c (.p pv [.r va (sR L)])]), (13, .o 0 0 A.length cp), (15, .p 1 0 0), (16, .c (I c2)), (32, .c (.r va (sR L))), (33, .c (I (sR L).length)), (34, .c (I k))] ∧ H = [.arr 96 3 cp (lnR A), .box [.c (I c), .c (I r)]]) ?_ ?_
    ·refine zh [some 0, some 1] (fun _ => [(2, .c (I ev)), (3, .c (I ph)), (12, .f (.func 94) [.c (.p pv [.r va (sR L)])]), (13, .o 0 0 (A).length cp), (15, .p 1 0 0), (16, .c (I (c))), (32, .c (.r va (sR L))), (33, .c (I (sR L).length)), (34, .c (I k))]) (fun _ => [.arr 96 3 cp (lnR (A)), .box [.c (I c), .c (I r)]]) (by decide) (ZNL hE) ZCF ZCH (fun _ => ?_)
     exact ⟨1000, c, by omega, by omega, fun j h1 h2 => by omega, hEE, rfl, rfl⟩
    rintro m3 F H ⟨c2, hc1, hc2, hc3, hc4, rfl, rfl⟩
    obtain ⟨b2, hb2⟩ : ∃ b, hasL L r (c2 + 1) = b := ⟨_, rfl⟩
    refine WR ?_
    refine zf rfl (za false (fun _ => hasl_v (c2 + 1) r pv va L hL9) rfl (.clo rfl) rfl (by decide) (by kernel_rfl) rfl (fun _ => C0 rfl) (by simp)) ?_
    rintro _ _ ⟨_, _, _, ⟨rfl, rfl⟩, hF, hH⟩
    rw [hb2] at hF
    (refine NST hF hH ?_; clear hF hH; rintro rfl rfl)
    refine WE ?_
    cases b2 with
    | true =>
     obtain ⟨m3, rfl⟩ : ∃ z, m3 = z + 1 := by
      cases m3 with
      | succ m3 => exact ⟨m3, rfl⟩
      | zero =>
       exfalso
       refine hen fun j h1 h2 => ?_
       by_cases ej : j = c
       ·rw [ej]
        have : (c, r) ∈ L := List.mem_of_getElem? hx
        simpa using this
       ·exact hc3 j (by omega) (by omega)
     rw [rE, if_pos hb2] at hc4
     refine zb rfl ?_
     refine WA ?_
     refine zh [some 0, some 1] (fun _ => [(2, .c (I ev)), (3, .c (I ph)), (12, .f (.func 94) [.c (.p pv [.r va (sR L)])]), (13, .o 0 0 (A).length cp), (15, .p 1 0 0), (16, .c (I (c2 + 1))), (32, .c (.r va (sR L))), (33, .c (I (sR L).length)), (34, .c (I k))]) (fun _ => [.arr 96 3 cp (lnR (A)), .box [.c (I c), .c (I r)]]) (by decide) (ZNL hE) ZCF ZCH (fun _ => ?_)
     refine ⟨m3, by omega, c2 + 1, by omega, by omega, fun j h1 h2 => ?_, hc4, rfl, rfl⟩
     by_cases ej : j = c2 + 1
     ·rw [ej]; exact hb2
     ·exact hc3 j h1 (by omega)
    | false =>
     obtain rfl : c2 = EE := by
      cases m3 with
      | zero => exact hc4
      | succ m3 => rw [rE, if_neg (by rw [hb2]; simp)] at hc4; exact hc4
     refine zd rfl ?_
     refine ZZ ?_
     refine WR ?_
     refine zf rfl (Zapp (KA (t := 93) rfl)) ?_
     rintro _ _ ⟨_, cc, hcc, rfl, rfl⟩
     refine WE ?_
     refine WA ?_
     refine zh [some 0] (fun _ => [(2, .c (I ev)), (3, .c (I ph)), (12, .f (.func 94) [.c (.p pv [.r va (sR L)])]), (13, .o 0 0 (A ++ [(r, c, c2)]).length cc), (32, .c (.r va (sR L))), (33, .c (I (sR L).length)), (34, .c (I (k + 1 : Nat)))]) (fun _ => [.arr 96 3 cc (lnR (A ++ [(r, c, c2)]))]) (by decide) (ZNL hE) ZCF ZCH (fun _ => ?_)
     exact ⟨m - 1, by omega, k + 1, cc, by omega, by rw [hsk], by rw [hsk]⟩
  ·rw [decide_eq_false h0, Bool.false_and, if_neg (by simp), List.append_nil] at hsk
   refine ZR ?_
   iterate 5 refine WX1 ?_
   refine ZA (zl1 hrm rfl rfl rfl (by omega)) ?_
   refine WO ?_
   first | refine ZS ?_ | (refine G1 rfl ?_; refine zf rfl (za false (fun _ => hasl_v (c - 1) r pv va L hL9) rfl (.clo rfl) rfl (by decide) (by kernel_rfl) rfl (fun _ => C0 rfl) (by simp)) ?_; rintro _ _ ⟨_, _, _, ⟨rfl, rfl⟩, hF, hH⟩; rw [hb] at hF; (refine NST hF hH ?_; clear hF hH; rintro rfl rfl)) | skip
   refine WE ?_
   refine zb rfl ?_
   refine WA ?_
   refine zh [some 0] (fun _ => [(2, .c (I ev)), (3, .c (I ph)), (12, .f (.func 94) [.c (.p pv [.r va (sR L)])]), (13, .o 0 0 (A).length cp), (32, .c (.r va (sR L))), (33, .c (I (sR L).length)), (34, .c (I (k + 1 : Nat)))]) (fun _ => [.arr 96 3 cp (lnR (A))]) (by decide) (ZNL hE) ZCF ZCH (fun _ => ?_)
   exact ⟨m - 1, by omega, k + 1, cp, by omega, by rw [hsk], by rw [hsk]⟩
 obtain rfl : k = L.length := by omega
 rw [List.take_length] at hA
 rw [hA]
 refine ZZ ?_
 refine WR ?_
 refine zf rfl (zb1 [0] (fun _ => [.arr 96 3 cp (lnR A)]) false (fun _ => sortLn_v A cp (by omega)) rfl .fn rfl (by decide) (by kernel_rfl) rfl ZCH (by decide) ZCH (by simp)) ?_
 rintro F1 H1 ⟨_, _, _, _, ⟨l', ⟨hlp, hls⟩, rfl, rfl⟩, hF, hH⟩
 rw [zI] at hF; (refine NSU hF hH ?_; clear hF hH; rintro rfl rfl)
 refine WE ?_
 have hll' : l'.length = A.length := hlp.length_eq
 refine WA ?_
 exact aret_f1 [] _ rfl rfl rfl rfl (by rw [List.drop_zero, List.take_of_length_le (by simp; omega)]) (by simp; omega) rfl (by decide) (ZNK rfl) (fun _ => .nil) (fun q => ⟨q, l', rfl, ⟨hlp, hls⟩, rfl⟩)
end Go.Proofs.YtfilfijammemfaaGreatDoor
namespace Go.Proofs.YtfilfijammemfaaGreatDoor
open Go Go.RowKit
def SwK {α : Type} (l : List α) (k : Nat) (l' : List α) : Prop := l'.length = l.length ∧ ∀ m, m < l.length → l'[m]? = if m < k ∨ l.length - 1 - m < k then l[l.length - 1 - m]? else l[m]?
theorem SwK.zero {α : Type} (l : List α) : SwK l 0 l := ⟨rfl, fun m hm => by rw [if_neg (by omega)]⟩
theorem SwK.next {α : Type} {l l' : List α} {k j : Nat} {x y : α} (h : SwK l k l') (hj : k + j + 1 = l.length) (hkj : k < j) (hx : l'[k]? = some x) (hy : l'[j]? = some y) : SwK l (k + 1) ((l'.set k y).set j x) := by
 obtain ⟨h1, h2⟩ := h
 have ek := h2 k (by omega)
 have ej := h2 j (by omega)
 rw [if_neg (by omega), hx] at ek
 rw [if_neg (by omega), hy] at ej
 refine ⟨by simp [h1], fun m hm => ?_⟩
 rw [List.getElem?_set, List.getElem?_set]
 by_cases hmj : j = m
 ·subst hmj
  rw [if_pos rfl, if_pos (by simp; omega), if_pos (by omega), show l.length - 1 - j = k from by omega, ← ek]
 ·rw [if_neg hmj]
  by_cases hmk : k = m
  ·subst hmk
   rw [if_pos rfl, if_pos (by omega), if_pos (by omega), show l.length - 1 - k = j from by omega, ← ej]
  ·rw [if_neg hmk, h2 m hm]
   by_cases hc : m < k ∨ l.length - 1 - m < k
   ·rw [if_pos hc, if_pos (by omega)]
   ·rw [if_neg hc, if_neg (by omega)]
theorem SwK.fin {α : Type} {l l' : List α} {k : Nat} (h : SwK l k l') (hkj : l.length ≤ 2 * k + 1) : l' = l.reverse := by
 obtain ⟨h1, h2⟩ := h
 refine List.ext_getElem? fun m => ?_
 rcases Nat.lt_or_ge m l.length with hm | hm
 ·rw [List.getElem?_reverse hm, h2 m hm]
  by_cases hc : m < k ∨ l.length - 1 - m < k
  ·rw [if_pos hc]
  ·rw [if_neg hc, show l.length - 1 - m = m from by omega]
 ·rw [List.getElem?_eq_none (by omega), List.getElem?_eq_none (by simp; omega)]
end Go.Proofs.YtfilfijammemfaaGreatDoor
