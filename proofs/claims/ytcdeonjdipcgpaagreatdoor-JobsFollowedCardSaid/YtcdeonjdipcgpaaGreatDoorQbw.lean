/- The record package follows jobs: noted is true, by the contracts. -/
import Derived.Test.YtcdeonjdipcgpaaGreatDoorQbv
import Derived.Test.YtcdeonjdipcgpaaGreatDoorQbu
import Derived.Test.YtcdeonjdipcgpaaGreatDoorQbt
set_option linter.unusedSimpArgs false
set_option linter.unusedVariables false
namespace Go.Proofs.YtcdeonjdipcgpaaGreatDoor
open Go Go.RowKit Go.Maps Go.Sort Go.Shelf
set_option maxRecDepth 100000
theorem zf2 : SortedKeysOk := fun l ck hok hl hk S ρ w hR hW => by
 obtain ⟨B, ms, hB, hh, hms⟩ := zr3 (b := 0) hR rfl
 obtain ⟨B1, t, hB1, hh1, _⟩ := hR.blk 1 _ rfl
 have hbox : w.heap[B1]? = some (.cells #[.map (some B)] t (0, 0)) := by
  rw [hh1]
  simp [AV.den, hB]
 have hargs : ([AV.f (.func 165) [.p 1 0 0]].map (AV.den ρ [mSS l ck, .box [.mp 0]])).toArray = #[.func (.func 165) #[] #[.pointer (some ⟨B1, 0, none⟩)]] := by
  simp [AV.den, AV.denL, hB1]
  rfl
 obtain ⟨D0, hown, hsz, hkp⟩ := map_own hh hms hok hl hk
 rw [hargs]
 refine (sorted_raw B1 B ms.size D0 w (hR.lt 1 B1 hB1) (by simp [World.cell?, hbox]) hown (by rw [hsz]; exact Nat.le_trans hl (by decide)) (by rw [hsz]; omega)).mono ?_
 rintro e w' ⟨⟨v, ss, rfl, hp, hrow, hbl⟩, hd⟩
 have hss : (ss.mergeSort fun x y => decide (x ≤ y)) = srtK l := mergeSort_of_perm (hp.trans hkp)
 have hlen : ss.length = l.length := by rw [hp.length_eq, hkp.length_eq, List.length_map]
 rw [hss, hlen] at hrow
 have hkey : ∀ (m : Option Nat) (c : Nat), (∀ g, m = some g → w.heap.size ≤ g ∧ g < w'.heap.size) → (∀ ρ2 H2, OwnB w' S ρ2 H2 (.arr 9 1 c (kR (srtK l))) m) →
     RH w' S (ρ ++ [m]) [mSS l ck, .box [.mp 0], .arr 9 1 c (kR (srtK l))] := fun m c hm ho => by
  have hl2 : ρ.length = 2 := hR.len
  have a0 : atB (ρ ++ [m]) 0 = some B := by rw [zv, if_neg (by omega)]; exact hB
  have a1 : atB (ρ ++ [m]) 1 = some B1 := by rw [zv, if_neg (by omega)]; exact hB1
  have a2 : atB (ρ ++ [m]) 2 = m := by rw [zv, if_pos hl2.symm]
  have hold : ∀ i b, atB (ρ ++ [m]) i = some b → (m = some b ∧ i = 2) ∨ (atB ρ i = some b ∧ b < w.heap.size) := fun i b hi => by
   rw [zv] at hi
   split at hi
   ·rename_i h; exact .inl ⟨hi, h.trans hl2⟩
   ·exact .inr ⟨hi, hR.lt i b hi⟩
  refine ⟨by simp [hl2], fun i i' b h1 h2 => ?_, fun i b h1 hS => ?_, fun i b h1 => ?_, fun b hb => Nat.lt_of_lt_of_le (hR.sS b hb) hbl.size, fun i o hi => ?_, PL.none fun i k b ⟨o, h1, h2⟩ => ?_⟩
  ·rcases hold i b h1 with ⟨g1, g2⟩ | ⟨g1, g2⟩ <;> rcases hold i' b h2 with ⟨q1, q2⟩ | ⟨q1, q2⟩
   ·omega
   ·have := (hm b g1).1; omega
   ·have := (hm b q1).1; omega
   ·exact hR.nd i i' b g1 q1
  ·rcases hold i b h1 with ⟨g1, g2⟩ | ⟨g1, g2⟩
   ·have := (hm b g1).1; have := hR.sS b hS; omega
   ·exact hR.ap i b g1 hS
  ·rcases hold i b h1 with ⟨g1, g2⟩ | ⟨g1, g2⟩
   ·exact (hm b g1).2
   ·exact Nat.lt_of_lt_of_le g2 hbl.size
  ·match i, hi with
   | 0, hi =>
    simp only [List.getElem?_cons_zero, Option.some.injEq] at hi
    subst hi
    rw [a0]
    refine ⟨B, ms, rfl, by rw [hbl.block B (hR.lt 0 B hB)]; exact hh, by rw [hms, List.map_map]; rfl, fun e he => ?_⟩
    obtain ⟨x, _, rfl⟩ := List.mem_map.1 he
    exact .s _
   | 1, hi =>
    simp only [List.getElem?_cons_succ, List.getElem?_cons_zero, Option.some.injEq] at hi
    subst hi
    rw [a1]
    refine ⟨B1, t, rfl, by rw [hbl.block B1 (hR.lt 1 B1 hB1), hbox]; simp [AV.den, a0], fun x hx => ?_⟩
    rw [List.mem_singleton] at hx
    subst hx
    exact ⟨.mp (by simp) (by rw [a0]; rfl), rfl⟩
   | 2, hi =>
    simp only [List.getElem?_cons_succ, List.getElem?_cons_zero, Option.some.injEq] at hi
    subst hi
    rw [a2]
    exact ho _ _
   | i + 3, hi => simp at hi
  ·obtain ⟨l2, rfl⟩ := zs1 h2
   match i, h1 with
   | 0, h1 => simp at h1
   | 1, h1 => simp at h1
   | 2, h1 => simp at h1
   | i + 3, h1 => simp at h1
 have hl2 : ρ.length = 2 := hR.len
 have hfin : ∀ (m : Option Nat) (c : Nat), (∀ g, m = some g → w.heap.size ≤ g ∧ g < w'.heap.size) → (∀ ρ2 H2, OwnB w' S ρ2 H2 (.arr 9 1 c (kR (srtK l))) m) → v = .slice (m.map fun B => ⟨B, 0, none⟩) l.length c → l.length ≤ c → (m = none → l.length = 0 ∧ c = 0) →
     ∃ u H' ρ' S', Ending.returned v = .returned (AV.den ρ' H' u) ∧ (∃ c, l.length ≤ c ∧ u = .o 2 0 l.length c ∧ H' = [mSS l ck, .box [.mp 0], .arr 9 1 c (kR (srtK l))]) ∧ WF w' S' ρ' H' u ∧ RH w' S' ρ' H' ∧
      Stp w w' (fun B => (∃ i, atB ρ i = some B) ∨ ∃ i k, inP [mSS l ck, .box [.mp 0]] i k B) ∧ (∀ b, S' b → S b ∨ (w.heap.size ≤ b ∨ ∃ i k, inP [mSS l ck, .box [.mp 0]] i k b)) ∧ (∀ i B, atB ρ' i = some B → (w.heap.size ≤ B ∨ ∃ i k, inP [mSS l ck, .box [.mp 0]] i k B) ∨ (i < [mSS l ck, .box [.mp 0]].length ∧ atB ρ i = some B)) ∧
      (∀ i k B, inP H' i k B → w.heap.size ≤ B ∨ ∃ i k, inP [mSS l ck, .box [.mp 0]] i k B) ∧
      (∀ i, i < [mSS l ck, OB.box [.mp 0]].length → i < H'.length ∧ ∀ o, [mSS l ck, OB.box [.mp 0]][i]? = some o → o.shp ≠ 0 → atB ρ' i = atB ρ i ∧ ∃ o', H'[i]? = some o' ∧ o'.shp = o.shp) ∧
      (true = true → ∀ i, i < [mSS l ck, OB.box [.mp 0]].length → atB ρ' i = atB ρ i ∧ szAt H' i = szAt [mSS l ck, .box [.mp 0]] i ∧ capAt H' i = capAt [mSS l ck, .box [.mp 0]] i) := fun m c hm ho hv hc h3 => by
  have a2 : atB (ρ ++ [m]) 2 = m := by rw [zv, if_pos hl2.symm]
  have hat : ∀ i, i < 2 → atB (ρ ++ [m]) i = atB ρ i := fun i hi => by rw [zv, if_neg (by omega)]
  refine ⟨.o 2 0 l.length c, _, ρ ++ [m], S, ?_, ⟨c, hc, rfl, rfl⟩, .o (by simp) hc (by simp [capAt, OB.cap]) (fun h => h3 (by rw [← a2]; exact h)), hkey m c hm ho, ⟨hbl.os, hbl.tape, hbl.output, hbl.size, fun b h _ => hbl.block b h, hd⟩, fun b hb => .inl hb, fun i b hi => ?_, fun i k b hi => ?_, fun i hi => ?_, fun _ i hi => ?_⟩
  ·rw [hv]
   simp [AV.den, a2]
  ·rw [zv] at hi
   split at hi
   ·exact .inl (.inl (hm b hi).1)
   ·exact .inr ⟨by have := zg3 hi; rw [hl2] at this; exact this, hi⟩
  ·obtain ⟨o, h1, h2⟩ := hi
   obtain ⟨l2, rfl⟩ := zs1 h2
   match i, h1 with
   | 0, h1 => simp at h1
   | 1, h1 => simp at h1
   | 2, h1 => simp at h1
   | i + 3, h1 => simp at h1
  ·have hi2 : i < 2 := hi
   refine ⟨by simp; omega, fun o ho2 _ => ⟨hat i hi2, ?_⟩⟩
   match i, ho2, hi2 with
   | 0, ho2, _ => exact ⟨o, ho2, rfl⟩
   | 1, ho2, _ => exact ⟨o, ho2, rfl⟩
  ·have hi2 : i < 2 := hi
   match i, hi2 with
   | 0, _ => exact ⟨hat 0 (by omega), rfl, rfl⟩
   | 1, _ => exact ⟨hat 1 (by omega), rfl, rfl⟩
 rcases hrow.2 with ⟨hv, h0⟩ | ⟨g, cap, cur, hv, hg, hgb, hn, hcap, hcur, htk⟩
 ·have hk0 : kR (srtK l) = [] := List.eq_nil_of_length_eq_zero (by rw [List.length_map, zi3]; exact h0)
  exact hfin none 0 (fun g h => by cases h) (fun ρ2 H2 => .inl ⟨rfl, rfl, hk0⟩) (by rw [hv, h0]; rfl) (by omega) fun _ => ⟨h0, rfl⟩
 ·refine hfin (some g) cap (fun q hq => ?_) (fun ρ2 H2 => .inr ⟨g, cur, rfl, hgb, hcur, hcap, by rw [List.length_map, zi3]; exact hn, fun row hr => ?_, fun k j row u hk2 hj => ?_⟩) hv hn (fun h => by cases h)
  ·cases hq
   exact ⟨hg, (Array.getElem?_eq_some_iff.1 hgb).1⟩
  ·obtain ⟨s2, _, rfl⟩ := List.mem_map.1 hr
   refine ⟨rfl, fun u hu => ?_⟩
   rw [List.mem_singleton] at hu
   subst hu
   exact ⟨.s _, rfl⟩
  ·rw [List.getElem?_map] at hk2
   cases hs2 : (srtK l)[k]? with
   | none => rw [hs2] at hk2; cases hk2
   | some s2 =>
    rw [hs2] at hk2
    simp only [Option.map_some, Option.some.injEq] at hk2
    subst hk2
    match j, hj with
    | 0, hj =>
     simp only [List.getElem?_cons_zero, Option.some.injEq] at hj
     subst hj
     have h1 : (cur.toList.take (l.length * 1))[k]? = some (encStr s2) := by rw [htk, List.getElem?_map, hs2]; rfl
     rw [List.getElem?_take] at h1
     split at h1
     ·rw [Nat.mul_one, Nat.add_zero, ← Array.getElem?_toList]; exact h1
     ·cases h1
    | j + 1, hj => simp at hj
end Go.Proofs.YtcdeonjdipcgpaaGreatDoor
-- NEWM
namespace Go.Proofs.YtcdeonjdipcgpaaGreatDoor
open Go Go.RowKit
set_option maxRecDepth 100000
abbrev nt1 : Nt := ⟨[97], 1, 0, 1, [112], [106], [], 2, [], 0⟩
theorem nt1_ask : askF [nt1] 0 = 0 := by kernel_rfl
theorem nt1_js : (bksF [nt1] (cntP 0 [nt1])).1.js.filterMap stPr = [([106], [114, 117, 110, 115])] := by kernel_rfl
theorem srt_one {m0 : List (Nat × List UInt8 × List UInt8)} {ck : Nat} {x : Pr} (h : MapOk m0 ck) (hp : (m0.map (·.2)).Perm [x]) : srtP m0 = [x] := List.perm_singleton.1 ((srtP_perm h.nk).trans hp)
theorem jobs_one (v : Value) : ACalls Tryz.prog 13 [.c (.r v (noRs [nt1])), .c (I 0)] [] fun u H => ∃ co, 1 ≤ co ∧ u = .t [.o 0 0 1 co, .c (I 0)] ∧ H = [.arr 56 2 co [[T [106], T [114, 117, 110, 115]]]] :=
 ACallsX.mono (jobsP_v zf2 v [nt1] 0 (by simp) (fun x hx => by rw [List.mem_singleton.1 hx]; exact ⟨by simp, by simp, by simp, by simp, by simp⟩)) fun u H ⟨r, co, hr, _, hco, hu, hH⟩ => by
  rw [nt1_ask] at hr hu
  have h1 : r = [([106], [114, 117, 110, 115])] := by
   rcases hr with ⟨h, _⟩ | ⟨_, m0, ck, h1, h2, rfl⟩
   ·exact absurd rfl h
   ·rw [nt1_js] at h2
    exact srt_one h1 h2
  subst h1
  exact ⟨co, hco, hu, hH⟩
theorem noted_j : ACalls Tryz.prog 30 [] [] fun u H => u = .c (B true) ∧ H = [] := by
 refine zj (N := 23) Tryz.func30 rfl rfl (by simp) fun E hE => ?_
 refine WA ?_
 refine ZR ?_
 refine WX1 ?_
 refine zf rfl Ybsr ?_
 rintro _ _ ⟨vn, rfl, rfl⟩
 refine zf rfl (zc false (fun _ => jobs_one vn) rfl .fn rfl (by decide) (by kernel_rfl) rfl (fun _ => C0 rfl) (by simp)) ?_
 rintro _ _ ⟨_, _, _, ⟨co, hco, rfl, rfl⟩, hF, hH⟩
 (refine NST hF hH ?_; clear hF hH; rintro rfl rfl)
 refine WE ?_
 have hrow : ([[T [106], T [114, 117, 110, 115]]] : List (List CV))[0]? = some [T [106], T [114, 117, 110, 115]] := rfl
 refine ZR ?_
 iterate 9 refine WX1 ?_
 first | refine ZP (rd_index (i := 0) rfl (KE (t := 35) rfl) rfl rfl rfl rfl (by omega)) ?_ | refine ZS ?_
 iterate 2 refine WX1 ?_
 first | refine ZP (zT (a := [114, 117, 110, 115]) (b := [114, 117, 110, 115]) (q := true) (decide_eq_true rfl) rfl Tryz.underlying9 rfl rfl) ?_ | refine ZS ?_
 refine WE ?_
 exact ze [] _ rfl rfl rfl (by decide) (ZNK rfl) (fun _ => .nil) ⟨rfl, rfl⟩
end Go.Proofs.YtcdeonjdipcgpaaGreatDoor
