/- No step of the machine takes a draw back: reports, early reads, operations. -/
import Derived.Test.YtlhbfcfjepbhpaaGreatDoorQbv
import Derived.Test.YtlhbfcfjepbhpaaGreatDoorQbe
import Derived.Test.YtlhbfcfjepbhpaaGreatDoorQac
import Derived.RunT
set_option linter.unusedSimpArgs false
set_option linter.unusedVariables false
-- NEWM
namespace Go.Proofs.YtlhbfcfjepbhpaaGreatDoor
open Go Go.RowKit
set_option maxRecDepth 100000
abbrev kR (l : List (List UInt8)) : List (List CV) := l.map fun s => [T s]
def srtK (l : List (Nat × List UInt8 × List UInt8)) : List (List UInt8) := (l.map (·.2.1)).mergeSort fun x y => decide (x ≤ y)
theorem srtK_len (l : List (Nat × List UInt8 × List UInt8)) : (srtK l).length = l.length := by
 unfold srtK
 rw [List.length_mergeSort, List.length_map]
def valP (l : List (Nat × List UInt8 × List UInt8)) (k : List UInt8) : Pr := (k, (mget l k).getD [])
def srtP (l : List (Nat × List UInt8 × List UInt8)) : List Pr := (srtK l).map (valP l)
theorem keys_v (l : List (Nat × List UInt8 × List UInt8)) (ck : Nat) : ACallsX true Tryz.prog 130 [.mp 0] [mSS l ck] fun u H => u = .f (.func 185) [.p 1 0 0] ∧ H = [mSS l ck, .box [.mp 0]] := by
 refine za1 true (N := 4) Tryz.func130 rfl rfl (by simp) fun E hE hP => ?_
 refine WA ?_
 refine WA ?_
 exact zZ (us := [.f (.func 185) [.p 1 0 0]]) [some 0, some 1] (fun _ => .f (.func 185) [.p 1 0 0]) (fun _ => [mSS l ck, .box [.mp 0]]) (.tmp rfl .nil) (by decide) (ZNK rfl) (fun _ => .fL (.cons (.p rfl) .nil)) ZCH (fun _ => ⟨rfl, rfl⟩)
def SortedKeysOk : Prop := ∀ (l : List (Nat × List UInt8 × List UInt8)) (ck : Nat), MapOk l ck → l.length ≤ 1000000 → (∀ e ∈ l, e.2.1.length ≤ 1000000) → ACallsX true Tryz.prog 129 [.f (.func 185) [.p 1 0 0]] [mSS l ck, .box [.mp 0]] fun u H => ∃ c, l.length ≤ c ∧ u = .o 2 0 l.length c ∧ H = [mSS l ck, .box [.mp 0], .arr 9 1 c (kR (srtK l))]
set_option maxHeartbeats 1000000 in
theorem pairs_v (hSK : SortedKeysOk) (l : List (Nat × List UInt8 × List UInt8)) (ck : Nat) (hok : MapOk l ck) (hl : l.length ≤ 1000000) (hk : ∀ e ∈ l, e.2.1.length ≤ 1000000) : ACallsX true Tryz.prog 74 [.mp 0] [mSS l ck] fun u H => ∃ c cs, l.length ≤ c ∧ u = .o 3 0 l.length c ∧ H = [mSS l ck, .box [.mp 0], .arr 9 1 cs (kR (srtK l)), .arr 51 2 c (prRs (srtP l))] := by
 refine za1 true (N := 24) Tryz.func74 rfl rfl (by simp) fun E hE hP => ?_
 have hsl := srtK_len l
 have e0 : (kR (srtK l)).length = l.length := by simp [hsl]
 refine WA ?_
 refine WA ?_
 refine WR ?_
 refine zh rfl (zb1 [0] (fun _ => [mSS l ck]) false (fun _ => keys_v l ck) rfl .fn rfl (by decide) (by kernel_rfl) rfl ZCH (by decide) ZCH (by simp)) ?_
 rintro F1 H1 ⟨_, _, _, _, ⟨rfl, rfl⟩, hF, hH⟩
 rw [zS] at hF; (refine NSU hF hH ?_; clear hF hH; rintro rfl rfl)
 refine zh rfl (zb1 [0, 1] (fun _ => [mSS l ck, .box [.mp 0]]) false (fun _ => hSK l ck hok hl hk) rfl .fn rfl (by decide) (by kernel_rfl) rfl (fun _ => .cons (.fL (.cons (.p rfl) .nil)) .nil) (by decide) ZCH (by simp)) ?_
 rintro F1 H1 ⟨_, _, _, _, ⟨c, hc, rfl, rfl⟩, hF, hH⟩
 rw [zS] at hF; (refine NSU hF hH ?_; clear hF hH; rintro rfl rfl)
 refine WE ?_
 refine zC (fun m F H => ∃ (k co : Nat), m + k = l.length ∧ k ≤ co ∧ F = [(0, .mp 0), (3, .o 3 0 k co), (8, .o 2 0 l.length c), (9, .c (I l.length)), (10, .c (I k))] ∧ H = [mSS l ck, .box [.mp 0], .arr 9 1 c (kR (srtK l)), .arr 51 2 co (prRs ((srtP l).take k))]) ?_ ?_
 ·refine zl [some 0, some 1, some 2, none] (fun _ => [(0, .mp 0), (3, .o 3 0 0 0), (8, .o 2 0 l.length c), (9, .c (I l.length)), (10, .c (I (0 : Nat)))]) (fun _ => [mSS l ck, .box [.mp 0], .arr 9 1 c (kR (srtK l)), .arr 51 2 0 []]) (by decide) (by rw [hE]; exact (ZNK rfl)) ZCF ZCH (fun _ => ?_)
  exact ⟨_, 0, 0, Nat.add_zero _, Nat.le_refl _, rfl, rfl⟩
 rintro m F H ⟨k, co, hkm, hco, rfl, rfl⟩
 have e1 : (prRs ((srtP l).take k)).length = k := by simp [srtP, hsl]; omega
 refine WA ?_
 refine zq rfl (fun hlt => ?_) (fun hge => ?_)
 ·obtain ⟨s, hs⟩ : ∃ z, (srtK l)[k]? = some z := ⟨_, List.getElem?_eq_getElem (by omega)⟩
  have hrow : (kR (srtK l))[k]? = some [T s] := by rw [List.getElem?_map, hs]; rfl
  obtain ⟨q, hq⟩ : ∃ q, (mget l s).getD [] = q := ⟨_, rfl⟩
  have htk : (srtP l).take (k + 1) = (srtP l).take k ++ [(s, q)] := by
   rw [List.take_add_one, srtP, List.getElem?_map, hs]
   simp [valP, hq]
  refine WA ?_
  refine ZR ?_
  iterate 4 refine WX1 ?_
  refine ZA (rd_lkSS (k := s) (l := l) hq rfl rfl rfl rfl) ?_
  refine WO ?_
  refine zh rfl (Zapp (news := [[T s, T q]]) (j := 1) (hE := KA (t := 46) rfl) (hsrc := .own rfl rfl rfl) (hj := rfl) (hle := by omega) (hn := e1.symm)) ?_
  rintro F1 H1 ⟨_, cc, hcc, hF, hH⟩
  (refine NSU hF hH ?_; clear hF hH; rintro rfl rfl)
  refine WE ?_
  refine WA ?_
  refine zl [some 0, some 1, some 2, some 3] (fun _ => [(0, .mp 0), (3, .o 3 0 (k + 1) cc), (8, .o 2 0 l.length c), (9, .c (I l.length)), (10, .c (I (k + 1 : Nat)))]) (fun _ => [mSS l ck, .box [.mp 0], .arr 9 1 c (kR (srtK l)), .arr 51 2 cc (prRs ((srtP l).take (k + 1)))]) (by decide) (by rw [hE]; exact (ZNK rfl)) ZCF (by rw [htk]; simp only [prRs, prR, List.map_append, List.map_cons, List.map_nil]; exact ZCH) (fun _ => ?_)
  exact ⟨m - 1, by omega, k + 1, cc, by omega, by omega, rfl, rfl⟩
 obtain rfl : k = l.length := by omega
 have htk : (srtP l).take l.length = srtP l := by rw [List.take_of_length_le]; simp [srtP, hsl]
 rw [htk]
 refine ZZ ?_
 refine WA ?_
 exact zm4 (k := l.length) [some 0, some 1, some 2, some 3] (fun _ => [mSS l ck, .box [.mp 0], .arr 9 1 c (kR (srtK l)), .arr 51 2 co (prRs (srtP l))]) rfl rfl rfl rfl (b' := 3) rfl (by decide) (ZNK rfl) ZCH (fun _ => ⟨co, c, hco, rfl, rfl⟩)
end Go.Proofs.YtlhbfcfjepbhpaaGreatDoor
-- NEWM
namespace Go.Proofs.YtlhbfcfjepbhpaaGreatDoor
open Go Go.RowKit
set_option maxRecDepth 100000
theorem mset_memk {α β : Type} [DecidableEq α] {ck : Nat} {a : α} {b : β} : ∀ {l : List (Nat × α × β)} {e : Nat × α × β}, e ∈ mset ck a b l → (∃ f ∈ l, e.2.1 = f.2.1) ∨ e.2.1 = a
 | [], e, h => by
  simp only [mset, List.mem_singleton] at h
  subst h
  exact .inr rfl
 | x :: l, e, h => by
  simp only [mset] at h
  split at h
  ·rename_i hx
   rcases List.mem_cons.1 h with rfl | h
   ·exact .inr (by simp)
   ·exact .inl ⟨e, List.mem_cons_of_mem _ h, rfl⟩
  ·rcases List.mem_cons.1 h with rfl | h
   ·exact .inl ⟨_, List.mem_cons_self, rfl⟩
   ·rcases mset_memk h with ⟨f, hf, h⟩ | h
    ·exact .inl ⟨f, List.mem_cons_of_mem _ hf, h⟩
    ·exact .inr h
structure NmB (b : Bk) : Prop where
 js : ∀ j ∈ b.js, j.pr.length ≤ 40 ∧ j.nm.length ≤ 40
 sp : ∀ e ∈ b.sp, e.2.1.length ≤ 40
theorem ntF_pr {x : Nt} (h : ntF x = 0) : (x.kd ≠ 7 → keyB x.pr = true) ∧ (x.kd = 1 → keyB x.jb = true) := by
 unfold ntF at h
 split at h
 ·cases h
 split at h
 ·cases h
 split at h
 ·cases h
 split at h
 ·cases h
 rename_i h4
 clear h
 simp only [not_or, not_and, Bool.not_eq_false] at h4
 exact ⟨fun hk => h4.1 (by simp [uP, hk]), fun hk => h4.2.1 (by simp [uJ, hk])⟩
theorem mem_modify {α : Type} {f : α → α} {l : List α} {k : Nat} {x : α} (h : x ∈ l.modify k f) : ∃ y ∈ l, x = y ∨ x = f y := by
 obtain ⟨i, hi⟩ := List.mem_iff_getElem?.1 h
 rw [List.getElem?_modify] at hi
 cases hy : l[i]? with
 | none => rw [hy] at hi; simp at hi
 | some y =>
  rw [hy] at hi
  refine ⟨y, List.mem_of_getElem? hy, ?_⟩
  by_cases hk : k = i
  ·simp [hk] at hi
   exact .inr hi.symm
  ·simp [hk] at hi
   exact .inl hi.symm
theorem layJ_nm {js : List Jb} {q : List UInt8} {t : Int} (h : ∀ j ∈ js, j.pr.length ≤ 40 ∧ j.nm.length ≤ 40) : ∀ j ∈ layJ js q t, j.pr.length ≤ 40 ∧ j.nm.length ≤ 40 := fun j hj => by
 unfold layJ at hj
 split at hj
 ·obtain ⟨y, hy, rfl | rfl⟩ := mem_modify hj
  ·exact h _ hy
  ·exact h y hy
 ·exact h j hj
theorem stopJ_nm {js : List Jb} {q : List UInt8} {s t : Int} (h : ∀ j ∈ js, j.pr.length ≤ 40 ∧ j.nm.length ≤ 40) : ∀ j ∈ stopJ js q s t, j.pr.length ≤ 40 ∧ j.nm.length ≤ 40 := fun j hj => by
 unfold stopJ at hj
 split at hj
 ·obtain ⟨y, hy, rfl | rfl⟩ := mem_modify hj
  ·exact h _ hy
  ·exact h y hy
 ·exact h j hj
theorem NmB.next {b : Bk} {x : Nt} (hx : ntF x = 0) (h : NmB b) : NmB (ntS b x) := by
 obtain ⟨hp, hj⟩ := ntF_pr hx
 unfold ntS
 by_cases c1 : x.kd = 1
 ·rw [if_pos c1]
  refine ⟨fun j hjj => ?_, h.sp⟩
  rcases List.mem_append.1 hjj with hjj | hjj
  ·exact h.js j hjj
  ·rw [List.mem_singleton] at hjj
   subst hjj
   exact ⟨key_len (hp (by omega)), key_len (hj c1)⟩
 rw [if_neg c1]
 by_cases c2 : x.kd = 2
 ·rw [if_pos c2]; exact ⟨layJ_nm h.js, h.sp⟩
 rw [if_neg c2]
 by_cases c3 : x.kd = 3
 ·rw [if_pos c3]; exact ⟨stopJ_nm h.js, h.sp⟩
 rw [if_neg c3]
 by_cases c4 : x.kd = 4
 ·rw [if_pos c4]; exact ⟨stopJ_nm h.js, h.sp⟩
 rw [if_neg c4]
 by_cases c5 : x.kd = 5
 ·rw [if_pos c5]
  refine ⟨h.js, fun e he => ?_⟩
  rcases mset_memk he with ⟨f, hf, he⟩ | he
  ·rw [he]; exact h.sp f hf
  ·rw [he]; exact key_len (hp (by omega))
 rw [if_neg c5]
 by_cases c6 : x.kd = 6
 ·rw [if_pos c6]; exact ⟨h.js, h.sp⟩
 rw [if_neg c6]
 exact h
theorem bkK_nm {l : List Nt} (hl : ∀ x ∈ l, ntF x = 0) (ix : List Int) : ∀ k, NmB (bkK l ix k).1
 | 0 => ⟨fun j h => (by cases h), fun e h => (by cases h)⟩
 | k + 1 => by
  have h := bkK_nm hl ix k
  rw [bkK]
  split
  ·split
   ·rename_i x hx
    unfold bkStep
    split
    ·exact h
    ·exact h.next (hl x (List.mem_of_getElem? hx))
   ·exact h
  ·exact h
theorem bksF_nm {l : List Nt} {at_ : Int} (hs : ∀ x ∈ l, ntF x = 0) : NmB (bksF l (cntP at_ l)).1 := bkK_nm hs _ _
theorem nodup_below {n : Nat} {L : List Nat} (h : L.Nodup) (hs : ∀ x ∈ L, x < n) : L.length ≤ n := by
 have : L.Perm ((List.range n).filter fun k => L.contains k) := (List.perm_ext_iff_of_nodup h (List.nodup_range.filter _)).2 fun a => by
  rw [List.mem_filter, List.mem_range]
  simp only [List.contains_iff_mem]
  exact ⟨fun ha => ⟨hs a ha, ha⟩, fun ha => ha.2⟩
 have h2 := this.length_eq
 have h3 := List.length_filter_le (fun k => L.contains k) (List.range n)
 rw [List.length_range] at h3
 omega
theorem mget_of_mem {α β : Type} [DecidableEq α] : ∀ {l : List (Nat × α × β)} {e : Nat × α × β}, (l.map (·.2.1)).Nodup → e ∈ l → mget l e.2.1 = some e.2.2
 | [], e, _, h => by cases h
 | x :: l, e, hn, h => by
  rw [List.map_cons, List.nodup_cons] at hn
  simp only [mget]
  rcases List.mem_cons.1 h with rfl | h
  ·rw [if_pos rfl]
  ·rw [if_neg fun e2 => hn.1 (by rw [← e2]; exact List.mem_map_of_mem (f := (·.2.1)) h)]
   exact mget_of_mem hn.2 h
theorem RunOk.key {js : List Jb} {rl : List (Nat × List UInt8 × List UInt8)} (h : RunOk js rl) {ck : Nat} (hm : MapOk rl ck) {e : Nat × List UInt8 × List UInt8} (he : e ∈ rl) : ∃ k j, runI js e.2.1 = some k ∧ js[k]? = some j ∧ j.pr = e.2.1 ∧ j.st = 0 ∧ j.nm = e.2.2 := by
 have h1 := mget_of_mem hm.nk he
 rw [h] at h1
 cases hr : runI js e.2.1 with
 | none => rw [hr] at h1; cases h1
 | some k =>
  obtain ⟨j, hj, h2, h3⟩ := zh2 hr
  rw [hr] at h1
  simp only [Option.bind_some] at h1
  rw [hj] at h1
  simp only [Option.map_some, Option.some.injEq] at h1
  exact ⟨k, j, rfl, hj, h2, h3, h1⟩
theorem RunOk.len {js : List Jb} {rl : List (Nat × List UInt8 × List UInt8)} (h : RunOk js rl) {ck : Nat} (hm : MapOk rl ck) : rl.length ≤ js.length := by
 have hn : (rl.map fun e => (runI js e.2.1).getD 0).Nodup := by
  have h1 : rl.Pairwise fun a b => a.2.1 ≠ b.2.1 := List.pairwise_map.1 hm.nk
  refine List.pairwise_map.2 (List.Pairwise.imp_of_mem (fun {a b} ha hb hne e => ?_) h1)
  obtain ⟨k, j, g1, g2, g3, _⟩ := h.key hm ha
  obtain ⟨k2, j2, q1, q2, q3, _⟩ := h.key hm hb
  rw [g1, q1] at e
  simp only [Option.getD_some] at e
  subst e
  rw [g2] at q2
  injection q2 with q2
  subst q2
  exact hne (g3.symm.trans q3)
 have := nodup_below (n := js.length) hn fun x hx => by
  obtain ⟨e, he, rfl⟩ := List.mem_map.1 hx
  obtain ⟨k, j, g1, g2, _⟩ := h.key hm he
  rw [g1]
  exact (List.getElem?_eq_some_iff.1 g2).1
 rwa [List.length_map] at this
end Go.Proofs.YtlhbfcfjepbhpaaGreatDoor
-- NEWM
namespace Go.Proofs.YtlhbfcfjepbhpaaGreatDoor
open Go Go.RowKit
set_option maxRecDepth 100000
theorem mset_fresh {β : Type} {m0 : List (Nat × List UInt8 × β)} {k : List UInt8} {v : β} (h : MapOk m0 m0.length) (hk : k ∉ m0.map (·.2.1)) : mset m0.length k v m0 = m0 ++ [(m0.length, k, v)] ∧ mclk m0.length k m0 = m0.length + 1 ∧ MapOk (m0 ++ [(m0.length, k, v)]) (m0.length + 1) := by
 have hn := mget_none.2 hk
 have h1 : mset m0.length k v m0 = m0 ++ [(m0.length, k, v)] := zz2 hn
 have h2 : mclk m0.length k m0 = m0.length + 1 := by rw [mclk, hn]; rfl
 have h3 := h.set k v
 rw [h1, h2] at h3
 exact ⟨h1, h2, h3⟩
set_option maxHeartbeats 2000000 in
theorem jobsP_v (hSK : SortedKeysOk) (v : Value) (l : List Nt) (at_ : Int) (hl : l.length ≤ 1000000) (hs : ∀ x ∈ l, NtS x) : ACalls Tryz.prog 21 [.c (.r v (noRs l)), .c (I at_)] [] fun u H => ∃ (r : List Pr) (co : Nat), ((askF l at_ ≠ 0 ∧ r = []) ∨ (askF l at_ = 0 ∧ ∃ m0 ck, MapOk m0 ck ∧ (m0.map (·.2)).Perm ((bksF l (cntP at_ l)).1.js.filterMap stPr) ∧ r = srtP m0)) ∧ r.length ≤ 2000 ∧ r.length ≤ co ∧ u = .t [.o 0 0 r.length co, .c (I (askF l at_))] ∧ H = [.arr 51 2 co (prRs r)] := by
 by_cases h0 : askF l at_ = 0
 ·have hjl := bksF_js (at_ := at_) (zk3 (zK2 h0)).1
  have hnm := bksF_nm (at_ := at_) (zk3 (zK2 h0)).2
  have hspl := bksF_sp (at_ := at_) (zk3 (zK2 h0)).1 (zk3 (zK2 h0)).2
  have hpx : PoolIx 8 := ⟨trivial⟩
  rw [h0]
  refine zg (N := 39) Tryz.func21 rfl rfl (by simp) fun E hE => ?_
  refine WA ?_
  refine WR ?_
  refine zh rfl (zc false (fun _ => checked_ok v l at_ hl hs h0) rfl .fn rfl (by decide) (by kernel_rfl) rfl (fun _ => C0 rfl) (by simp)) ?_
  rintro _ _ ⟨_, _, _, ⟨rfl, b, R1, R2, bl, rl, rk, c1, c2, hbf, hB, hbl, hrl, hrm, h1l, h2l, hc1, hc2, rfl⟩, hF, hH⟩
  (refine NST hF hH ?_; clear hF hH; rintro rfl rfl)
  refine WE ?_
  refine WA ?_
  refine za rfl ?_
  refine ZZ ?_
  rw [hbf] at hjl hnm hspl
  simp only at hjl hnm hspl
  have hJ := hB.js
  have hok : MapOk (jlF 0 b.js bl) b.js.length := jlF_ok hJ hbl
  have hjlen : (jlF 0 b.js bl).length = b.js.length := by have := congrArg List.length (zS3 (i := 0) hbl); rw [List.length_map, List.length_range'] at this; exact this
  refine ZR ?_
  refine zh rfl (zC1 rfl rfl (by decide)) ?_
  rintro _ _ ⟨rfl, rfl⟩
  refine WE ?_
  refine ZR ?_
  iterate 4 refine WX1 ?_
  refine zh rfl (ef_range (ke := encSt) (ve := encPt) (l := jlF 0 b.js bl) (ck := b.js.length) rfl rfl (by decide) Tryz.underlying117 rfl rfl) ?_
  rintro _ _ ⟨rfl, rfl⟩
  refine WE ?_
  refine zC (fun m F H => ∃ (seen : List Nat) (m0 : List (Nat × List UInt8 × List UInt8)), unsG (jlF 0 b.js bl) seen = m ∧ m + seen.length ≤ b.js.length ∧ seen.Nodup ∧ (∀ k ∈ seen, k < b.js.length) ∧ m0.map (·.2) = fmJ stPr b.js seen ∧ MapOk m0 m0.length ∧ F = [(8, .mp 9), (25, .p 10 0 0)] ∧ H = [.box [.mp 1, .mp 2, .mp 3, .mp 4, .mp 5, .o 6 0 (R1).length c1, .o 7 0 (R2).length c2], mSP (jlF 0 b.js bl) b.js.length, mSS rl rk, mSS b.sp b.spk, mSI b.lf b.lfk, mSI b.us b.usk, .arr 3 1 c1 (nR (R1)), .arr 30 1 c2 (nR (R2)), .pool (plF jbP b.js bl), mSS m0 m0.length, .itr 1 b.js.length seen b.js.length]) ?_ ?_
  ·refine zl [some 0, some 1, some 2, some 3, some 4, some 5, some 6, some 7, some 8, some 9, some 10] (fun _ => [(8, .mp 9), (25, .p 10 0 0)]) (fun _ => [.box [.mp 1, .mp 2, .mp 3, .mp 4, .mp 5, .o 6 0 (R1).length c1, .o 7 0 (R2).length c2], mSP (jlF 0 b.js bl) b.js.length, mSS rl rk, mSS b.sp b.spk, mSI b.lf b.lfk, mSI b.us b.usk, .arr 3 1 c1 (nR (R1)), .arr 30 1 c2 (nR (R2)), .pool (plF jbP b.js bl), mSS [] 0, .itr 1 b.js.length [] b.js.length]) (by decide) (ZNL hE) ZCF ZCH (fun _ => ?_)
   exact ⟨_, [], [], rfl, by have := unsG_le (jlF 0 b.js bl) []; rw [hjlen] at this; exact this, List.nodup_nil, fun k h => (by cases h), rfl, .nil, rfl, rfl⟩
  rintro m F H ⟨seen, m0, hm, hml, hnd, hsl, hout, hm0, rfl, rfl⟩
  have hol : m0.length ≤ 2000 := by have h1 := congrArg List.length hout; rw [List.length_map] at h1; have := fmJ_len stPr b.js seen; omega
  refine ZR ?_
  refine zh rfl (ef_next (ke := encSt) (ve := encPt) (l := jlF 0 b.js bl) rfl rfl (by decide) rfl rfl rfl hok.hb (Nat.le_refl _)) ?_
  rintro _ _ (⟨⟨eb, ek, es⟩, he, hne, rfl, rfl⟩ | ⟨hall, rfl, rfl⟩)
  all_goals (refine WE ?_)
  ·refine zb rfl ?_
   obtain ⟨k, j, b0, hj, hb, heq⟩ := jlF_mem he
   injection heq with q1 q2
   injection q2 with q2 q3
   subst q1; subst q2; subst q3
   have hlt : unsG (jlF 0 b.js bl) (seen ++ [0 + k]) < unsG (jlF 0 b.js bl) seen := unsG_lt he hne
   have hin : InPool k b0 (plF jbP b.js bl) [T (stW j.st), I j.ly.length, I j.all, I j.beg, I (j.ly.getLast?.getD 0), I j.en] := ⟨plF_get hj hb⟩
   have hkm : j.nm ∉ m0.map (·.2.1) := fun h => by
    obtain ⟨e, hem, hen⟩ := List.mem_map.1 h
    have h2 : e.2 ∈ m0.map (·.2) := List.mem_map_of_mem (f := fun e : Nat × List UInt8 × List UInt8 => e.2) hem
    rw [hout] at h2
    obtain ⟨q, hq, hq2⟩ := List.mem_filterMap.1 h2
    cases hjq : b.js[q]? with
    | none => rw [hjq] at hq2; cases hq2
    | some j2 =>
     rw [hjq] at hq2
     simp only [Option.bind_some, stPr, Option.some.injEq] at hq2
     have hn2 : j2.nm = j.nm := by rw [← hen, ← hq2]
     have := hJ.nm q k j2 j hjq hj hn2
     subst this
     exact hne (by simpa using hq)
   obtain ⟨g1, g2, g3⟩ := mset_fresh (v := stW j.st) hm0 hkm
   have hnd2 : (seen ++ [0 + k]).Nodup := List.nodup_append.2 ⟨hnd, by simp, fun a ha b hb h => by simp at hb; subst hb; subst h; exact hne (by simpa using ha)⟩
   have hsl2 : ∀ q ∈ seen ++ [0 + k], q < b.js.length := fun q hq => by
    rcases List.mem_append.1 hq with hq | hq
    ·exact hsl q hq
    ·rw [List.mem_singleton, Nat.zero_add] at hq; subst hq; exact (List.getElem?_eq_some_iff.1 hj).1
   have hout2 : (m0 ++ [(m0.length, j.nm, stW j.st)]).map (·.2) = fmJ stPr b.js (seen ++ [0 + k]) := by rw [fmJ_some (f := stPr) hj rfl, List.map_append, hout]; rfl
   refine ZR ?_
   refine ZA (rd_entry (ke := encSt) (ve := encPt) (e := (0 + k, j.nm, ptrV b0)) rfl rfl rfl rfl he hok.nb) ?_
   refine WE ?_
   refine ZR ?_
   iterate 6 refine WX1 ?_
   refine zh rfl (ef_muSS (k := j.nm) (l := m0) (z := (stW j.st)) rfl rfl rfl rfl rfl rfl) ?_
   rintro _ _ ⟨rfl, rfl⟩
   refine WE ?_
   rw [g1, g2]
   refine zl [some 0, some 1, some 2, some 3, some 4, some 5, some 6, some 7, some 8, some 9, some 10] (fun _ => [(8, .mp 9), (25, .p 10 0 0)]) (fun _ => [.box [.mp 1, .mp 2, .mp 3, .mp 4, .mp 5, .o 6 0 (R1).length c1, .o 7 0 (R2).length c2], mSP (jlF 0 b.js bl) b.js.length, mSS rl rk, mSS b.sp b.spk, mSI b.lf b.lfk, mSI b.us b.usk, .arr 3 1 c1 (nR (R1)), .arr 30 1 c2 (nR (R2)), .pool (plF jbP b.js bl), mSS (m0 ++ [(m0.length, j.nm, stW j.st)]) (m0 ++ [(m0.length, j.nm, stW j.st)]).length, .itr 1 b.js.length (seen ++ [0 + k]) b.js.length]) (by decide) (ZNL hE) ZCF (by rw [List.length_append, List.length_singleton]; exact ZCH) (fun _ => ?_)
   exact ⟨_, by rw [← hm]; exact hlt, seen ++ [0 + k], _, rfl, by rw [List.length_append, List.length_singleton]; omega, hnd2, hsl2, hout2, by rw [List.length_append, List.length_singleton]; exact g3, rfl, rfl⟩
  ·refine za rfl ?_
   have hp : (m0.map (·.2)).Perm (b.js.filterMap stPr) := by
    rw [hout]
    refine fmJ_all hnd hsl fun k hk => ?_
    obtain ⟨b0, hb0⟩ : ∃ b0, bl[k]? = some b0 := ⟨_, List.getElem?_eq_getElem (by rw [hbl]; exact hk)⟩
    simpa using hall _ (jlF_in (i := 0) (List.getElem?_eq_getElem hk) hb0)
   have hkl : ∀ e ∈ m0, e.2.1.length ≤ 1000000 := fun e he => by
    have h2 : e.2 ∈ m0.map (·.2) := List.mem_map_of_mem (f := (·.2)) he
    obtain ⟨j, hj, hj2⟩ := List.mem_filterMap.1 (hp.subset h2)
    simp only [stPr, Option.some.injEq] at hj2
    have := (hnm.js j hj).2
    rw [← hj2]
    simp only
    omega
   have hsl : (srtP m0).length = m0.length := by simp [srtP, srtK_len]
   refine ZZ ?_
   refine WR ?_
   refine zh rfl (zb1 [9] (fun _ => [mSS m0 m0.length]) false (fun _ => pairs_v hSK m0 m0.length hm0 (by omega) hkl) rfl .fn rfl (by decide) (by kernel_rfl) rfl ZCH (by decide) ZCH (by simp)) ?_
   rintro F1 H1 ⟨_, _, _, _, ⟨co, cs, hco, rfl, rfl⟩, hF, hH⟩
   rw [zS] at hF; (refine NSU hF hH ?_; clear hF hH; rintro rfl rfl)
   refine WE ?_
   exact zZ (us := [.o 13 0 m0.length co, .c (I 0)]) [some 13] (fun _ => .t [.o 0 0 m0.length co, .c (I 0)]) (fun _ => [.arr 51 2 co (prRs (srtP m0))]) (.tmp rfl (.tmp rfl .nil)) (by decide) (ZNK rfl) (fun _ => .tL (.cons (.o rfl rfl) (.cons (.c rfl) .nil))) ZCH (fun _ => ⟨srtP m0, co, .inr ⟨rfl, m0, m0.length, hm0, by rw [hbf]; exact hp, rfl⟩, by omega, by omega, by rw [hsl], rfl⟩)
 ·refine zg (N := 39) Tryz.func21 rfl rfl (by simp) fun E hE => ?_
  refine WA ?_
  refine WR ?_
  refine zh rfl (zc false (fun _ => checked_no v l at_ hl hs h0) rfl .fn rfl (by decide) (by kernel_rfl) rfl (fun _ => C0 rfl) (by simp)) ?_
  rintro _ _ ⟨_, _, _, ⟨rfl, rfl⟩, hF, hH⟩
  (refine NST hF hH ?_; clear hF hH; rintro rfl rfl)
  refine WE ?_
  generalize askF l at_ = e at h0 ⊢
  refine WA ?_
  refine zb rfl ?_
  refine WA ?_
  exact zZ (us := [.c (.r (.slice none 0 0) []), .c (I e)]) [none] (fun _ => .t [.o 0 0 0 0, .c (I e)]) (fun _ => [.arr 51 2 0 []]) (.tmp rfl (.tmp rfl .nil)) (by decide) (ZNK rfl) (fun _ => .tL (.cons (.nil rfl) (.cons (.c rfl) .nil))) ZCH (fun _ => ⟨[], 0, .inl ⟨h0, rfl⟩, Nat.zero_le _, Nat.le_refl _, rfl, rfl⟩)
end Go.Proofs.YtlhbfcfjepbhpaaGreatDoor
namespace Go.Proofs.YtlhbfcfjepbhpaaGreatDoor
open Go Go.RowKit
set_option maxRecDepth 1000000
theorem spoilN_a (l : List Nt) (c : Nat) (hl : l.length ≤ 1000000) : ACallsX true Tryz.prog 19 [.o 0 0 l.length c] [.arr 39 10 c (l.map noR)] fun u H => ∃ l' : List Nt, l'.length = l.length ∧ u = .t [] ∧ H = [.arr 39 10 c (l'.map noR)] := by
 refine za1 true (N := 14) Tryz.func19 rfl rfl (by simp) fun E hE hP => ?_
 refine WA ?_
 refine WA ?_
 refine zC (fun m F H => ∃ (k : Nat) (l' : List Nt), m + k = l.length ∧ l'.length = l.length ∧ F = [(0, .o 0 0 l.length c), (2, .p 1 0 0), (5, .c (I l.length)), (6, .c (I k))] ∧ H = [.arr 39 10 c (l'.map noR), .box [.c (T []), .c (I 0), .c (I 0), .c (I 0), .c (T []), .c (T []), .c (T []), .c (I 0), .c (T []), .c (I 0)]]) ?_ ?_
 ·refine zl [some 0, some 1] (fun _ => [(0, .o 0 0 l.length c), (2, .p 1 0 0), (5, .c (I l.length)), (6, .c (I (0 : Nat)))]) (fun _ => [.arr 39 10 c (l.map noR), .box [.c (T []), .c (I 0), .c (I 0), .c (I 0), .c (T []), .c (T []), .c (T []), .c (I 0), .c (T []), .c (I 0)]]) (by decide) (ZNL hE) ZCF ZCH (fun _ => ?_)
  exact ⟨l.length, 0, l, by omega, rfl, rfl, rfl⟩
 rintro m F H ⟨k, l', hk, hl', rfl, rfl⟩
 refine WA ?_
 refine zq rfl (fun hlt => ?_) (fun hge => ?_)
 ·obtain ⟨x, hx⟩ : ∃ x, l'[k]? = some x := ⟨_, List.getElem?_eq_getElem (by omega)⟩
  obtain ⟨st, no, a_, kn, pr, jb, sp, n, of_, ot⟩ := x
  have hrow : (l'.map noR)[0 + k]? = some [T st, I no, I a_, I kn, T pr, T jb, T sp, I n, T of_, I ot] := by rw [Nat.zero_add, List.getElem?_map, hx]; rfl
  have hrow2 : (l'.map noR)[k]? = some [T st, I no, I a_, I kn, T pr, T jb, T sp, I n, T of_, I ot] := by rw [List.getElem?_map, hx]; rfl
  refine WA ?_
  refine WA ?_
  refine WA ?_
  refine zl [some 0, some 1] (fun _ => [(0, .o 0 0 l.length c), (2, .p 1 0 0), (5, .c (I l.length)), (6, .c (I (k + 1 : Nat)))]) (fun _ => [.arr 39 10 c ((l'.map noR).set k (noR (⟨[], 0, 0, 0, [], [], [], 0, [], 0⟩ : Nt))), .box [.c (T []), .c (I 0), .c (I 0), .c (I 0), .c (T []), .c (T []), .c (T []), .c (I 0), .c (T []), .c (I 0)]]) (by decide) (ZNL hE) ZCF (fun _ => .arr rfl (by rw [Nat.zero_add]; try rfl) (.box rfl (C0 rfl) .nil)) (fun _ => ?_)
  exact ⟨m - 1, by omega, k + 1, l'.set k (⟨[], 0, 0, 0, [], [], [], 0, [], 0⟩ : Nt), by omega, by simp [hl'], rfl, by rw [List.map_set]⟩
 refine ZZ ?_
 exact zF1 [some 0] (fun _ => [.arr 39 10 c (l'.map noR)]) (by simp) rfl (by decide) (ZNK rfl) ZCH (fun _ => ⟨l', hl', rfl, rfl⟩)
theorem spoilP_a (l : List Pr) (c : Nat) (hl : l.length ≤ 1000000) : ACallsX true Tryz.prog 22 [.o 0 0 l.length c] [.arr 51 2 c (l.map prR)] fun u H => ∃ l' : List Pr, l'.length = l.length ∧ u = .t [] ∧ H = [.arr 51 2 c (l'.map prR)] := by
 refine za1 true (N := 14) Tryz.func22 rfl rfl (by simp) fun E hE hP => ?_
 refine WA ?_
 refine WA ?_
 refine zC (fun m F H => ∃ (k : Nat) (l' : List Pr), m + k = l.length ∧ l'.length = l.length ∧ F = [(0, .o 0 0 l.length c), (2, .p 1 0 0), (5, .c (I l.length)), (6, .c (I k))] ∧ H = [.arr 51 2 c (l'.map prR), .box [.c (T []), .c (T [])]]) ?_ ?_
 ·refine zl [some 0, some 1] (fun _ => [(0, .o 0 0 l.length c), (2, .p 1 0 0), (5, .c (I l.length)), (6, .c (I (0 : Nat)))]) (fun _ => [.arr 51 2 c (l.map prR), .box [.c (T []), .c (T [])]]) (by decide) (ZNL hE) ZCF ZCH (fun _ => ?_)
  exact ⟨l.length, 0, l, by omega, rfl, rfl, rfl⟩
 rintro m F H ⟨k, l', hk, hl', rfl, rfl⟩
 refine WA ?_
 refine zq rfl (fun hlt => ?_) (fun hge => ?_)
 ·obtain ⟨x, hx⟩ : ∃ x, l'[k]? = some x := ⟨_, List.getElem?_eq_getElem (by omega)⟩
  obtain ⟨x1, x2⟩ := x
  have hrow : (l'.map prR)[0 + k]? = some [T x1, T x2] := by rw [Nat.zero_add, List.getElem?_map, hx]; rfl
  have hrow2 : (l'.map prR)[k]? = some [T x1, T x2] := by rw [List.getElem?_map, hx]; rfl
  refine WA ?_
  refine WA ?_
  refine WA ?_
  refine zl [some 0, some 1] (fun _ => [(0, .o 0 0 l.length c), (2, .p 1 0 0), (5, .c (I l.length)), (6, .c (I (k + 1 : Nat)))]) (fun _ => [.arr 51 2 c ((l'.map prR).set k (prR (([], []) : Pr))), .box [.c (T []), .c (T [])]]) (by decide) (ZNL hE) ZCF (fun _ => .arr rfl (by rw [Nat.zero_add]; try rfl) (.box rfl (C0 rfl) .nil)) (fun _ => ?_)
  exact ⟨m - 1, by omega, k + 1, l'.set k (([], []) : Pr), by omega, by simp [hl'], rfl, by rw [List.map_set]⟩
 refine ZZ ?_
 exact zF1 [some 0] (fun _ => [.arr 51 2 c (l'.map prR)]) (by simp) rfl (by decide) (ZNK rfl) ZCH (fun _ => ⟨l', hl', rfl, rfl⟩)
end Go.Proofs.YtlhbfcfjepbhpaaGreatDoor
namespace Go.Proofs.YtlhbfcfjepbhpaaGreatDoor
open Go Go.RowKit
def resW {α : Type} : Result α → World
 | .ok _ w => w
 | .halt _ w => w
theorem ze2 {α : Type} {P : Program} : ∀ (s : Sem α) (w : World), w.drawn ≤ (resW (s.run P w)).drawn := by
 intro s
 induction s with
 | pure a => intro w; exact Nat.le_refl _
 | load m a k ih =>
  intro w
  simp only [Sem.run]
  repeat' split
  all_goals first | exact ih _ _ | exact Nat.le_refl _
 | store m a x k ih =>
  intro w
  cases x <;> simp only [Sem.run]
  all_goals first
   | exact Nat.le_refl _
   | (split
      ·split
       ·exact Nat.le_refl _
       ·exact ih (w.setCell a _)
      ·split
       ·rename_i h1; exact Nat.le_trans (zn3 h1) (ih _)
       ·exact Nat.le_refl _)
 | new o k ih => intro w; simp only [Sem.run]; exact ih _ { w with heap := w.heap.push o }
 | shape r k ih => intro w; simp only [Sem.run]; exact ih _ _
 | freeze a n k ih =>
  intro w; simp only [Sem.run]
  have := ih (w.freeze a n)
  refine Nat.le_trans (Nat.le_of_eq ?_) this
  unfold World.freeze
  split <;> rfl
 | frozen a k ih => intro w; simp only [Sem.run]; exact ih _ _
 | getObj r k ih =>
  intro w; simp only [Sem.run]
  split
  ·exact Nat.le_refl _
  ·exact ih _ _
  ·exact Nat.le_refl _
 | setObj r o k ih =>
  intro w; simp only [Sem.run]
  split
  ·exact Nat.le_refl _
  ·exact ih { w with heap := w.heap.setIfInBounds r o }
  ·exact Nat.le_refl _
 | choose q k ih =>
  intro w; simp only [Sem.run]
  split
  ·exact ih _ _
  ·exact Nat.le_trans (Nat.le_succ _) (ih _ { w with drawn := w.drawn + 1 })
 | sys c k ih => intro w; simp only [Sem.run]; exact Nat.le_trans (sys_drawn w c) (ih _ _)
 | program k ih => intro w; simp only [Sem.run]; exact ih _ _
 | mark m k ih => intro w; simp only [Sem.run]; exact ih _
 | halt h => intro w; exact Nat.le_refl _
theorem zz1 {α : Type} {P : Program} (s : Sem α) (w : World) (es : Array Event) : w.drawn ≤ (resW (s.runT P w es).1).drawn := by
 rw [Sem.runT_fst]
 exact ze2 s w
def gsW : GStep → World
 | .go _ w _ => w
 | .comm _ _ _ _ w _ => w
 | .spawn _ _ w _ => w
 | .count _ w _ => w
 | .timer _ _ w _ => w
 | .alone _ _ w _ => w
 | .newcoro _ _ _ w _ => w
 | .coroswitch _ _ _ w _ => w
 | .collect _ w _ => w
 | .watch _ w _ => w
 | .ended _ w _ => w
theorem zX1 (es : Array Event) (g : GStep) : gsW (g.after es) = gsW g := by cases g <;> rfl
theorem zv2 (p : Program) (main : Bool) (fr : Frame) (cs : List Frame) (d : Option Dying) (v : Value) (w : World) : gsW (doReturn p main fr cs d v w) = w := by
 unfold doReturn
 repeat' split
 all_goals rfl
end Go.Proofs.YtlhbfcfjepbhpaaGreatDoor
namespace Go.Proofs.YtlhbfcfjepbhpaaGreatDoor
open Go Go.RowKit
theorem zo3 (fr : Frame) (m : String) (w : World) : gsW (endThrow fr m w) = w := rfl
theorem zB2 (p : Program) (fr : Frame) (v : Value) (w : World) : gsW (endPrinting p fr v w) = w := by
 unfold endPrinting
 dsimp only
 repeat' split
 all_goals rfl
theorem endWith_drawn (w : World) (fd : Nat) (t : ByteArray) (o : Outcome) : w.drawn ≤ (gsW (endWith w fd t o)).drawn := by
 have h := sys_drawn w (.write fd t)
 unfold endWith
 revert h
 generalize w.sys (.write fd t) = x
 obtain ⟨a, w2⟩ := x
 intro h
 simp only at h ⊢
 repeat' split
 all_goals (rename_i heq; first | (cases heq; exact h) | (rename_i heq2; cases heq2; exact h) | (rename_i _ heq2; cases heq2; exact h) | simp_all [gsW])
theorem gsIte {c : Prop} [Decidable c] {a b : GStep} {n : Nat} (h1 : n ≤ (gsW a).drawn) (h2 : n ≤ (gsW b).drawn) : n ≤ (gsW (if c then a else b)).drawn := by
 split
 ·exact h1
 ·exact h2
theorem zN3 (hF : ∀ (p : Program) (fr : Frame) (cs : List Frame) (d : Option Dying) (m : String) (w : World), w.drawn ≤ (gsW (endFatal p fr cs d m w)).drawn) (p : Program) (fr : Frame) (cs : List Frame) (d : Option Dying) (df : Deferred) (w : World) : w.drawn ≤ (gsW (callDeferred p fr cs d df w)).drawn := by
 unfold callDeferred
 refine gsIte (Nat.le_refl _) ?_
 ·have h := zz1 (P := p) (invoke df.target df.args) w #[]
  revert h
  generalize (invoke df.target df.args).runT p w #[] = x
  obtain ⟨r, es⟩ := x
  intro h
  simp only [zX1] at h ⊢
  cases r with
  | ok n w2 =>
   cases n <;> (try simp only)
   all_goals first
    | exact h
    | (rename_i q1 q2; cases q2 <;> exact h)
    | (rename_i q1 q2; cases q1 <;> exact h)
    | (repeat' split
       all_goals exact h)
  | halt e w2 =>
   cases e <;> (try simp only)
   all_goals first
    | exact h
    | exact Nat.le_trans h (hF _ _ _ _ _ _)
    | (repeat' split
       all_goals exact h)
theorem unwind_drawn (hF : ∀ (p : Program) (fr : Frame) (cs : List Frame) (d : Option Dying) (m : String) (w : World), w.drawn ≤ (gsW (endFatal p fr cs d m w)).drawn) (p : Program) (main : Bool) (fr : Frame) (cs : List Frame) (d : Option Dying) (w : World) : w.drawn ≤ (gsW (unwind p main fr cs d w)).drawn := by
 unfold unwind
 split
 ·rename_i block _ ds _
  have h := zz1 (P := p) (Instr.takeDeferred block) w #[]
  revert h
  generalize (Instr.takeDeferred block).runT p w #[] = x
  obtain ⟨r, es⟩ := x
  intro h
  simp only [zX1] at h ⊢
  cases r <;> exact h
 ·exact zN3 hF _ _ _ _ _ _
 ·split
  ·exact Nat.le_refl _
  ·rename_i chain _
   split
   ·exact Nat.le_refl _
   ·split
    ·exact Nat.le_refl _
    ·split
     ·split
      ·exact Nat.le_refl _
      ·have h := ze2 (P := p) (reportChain chain false) w
       revert h
       generalize (reportChain chain false).run p w = x
       intro h
       cases x with
       | ok a w2 => exact h
       | halt e w2 => cases e <;> exact h
     ·split
      ·rw [zB2]; exact Nat.le_refl _
      ·exact Nat.le_refl _
  ·split
   ·rw [zv2]; exact Nat.le_refl _
   ·rename_i fn _
    have h := zz1 (P := p) (results fn fr.tmps) w #[]
    revert h
    generalize (results fn fr.tmps).runT p w #[] = x
    obtain ⟨r, es⟩ := x
    intro h
    simp only [zX1] at h ⊢
    cases r with
    | ok a w2 => simp only; rw [zv2]; exact h
    | halt e w2 => cases e <;> exact h
end Go.Proofs.YtlhbfcfjepbhpaaGreatDoor
namespace Go.Proofs.YtlhbfcfjepbhpaaGreatDoor
open Go Go.RowKit
theorem dr_of {α : Type} {P : Program} {s : Sem α} {w : World} {es : Array Event} {x : Result α × Array Event} (h : s.runT P w es = x) : w.drawn ≤ (resW x.1).drawn := h ▸ zz1 s w es
theorem zp3 (p : Program) (fr : Frame) (cs : List Frame) (d : Option Dying) (m : String) (w : World) : w.drawn ≤ (gsW (endFatal p fr cs d m w)).drawn := by
 unfold endFatal
 extract_lets chain raw shown
 have h := ze2 (P := p) shown w
 revert h
 generalize shown.run p w = x
 intro h
 cases x with
 | ok a w2 => exact h
 | halt e w2 => cases e <;> exact h
theorem writeOn_drawn (p : Program) (fr : Frame) (d : Dying) (f : Fatal) (w : World) : w.drawn ≤ (gsW (writeOn p fr d f w)).drawn := by
 unfold writeOn
 extract_lets on
 split
 ·exact Nat.le_refl _
 ·dsimp only
  repeat' split
  all_goals
   rename_i hx
   exact dr_of hx
theorem early_drawn (p : Program) (fr : Frame) (cs : List Frame) (d : Option Dying) (g : Nat) (w : World) : w.drawn ≤ (gsW (early p fr cs d g w)).drawn := by
 unfold early
 extract_lets refuse notYet
 have hr : gsW refuse = w := rfl
 have hn : ∀ w2 : World, (gsW (notYet w2)).drawn = w2.drawn := fun w2 => by
  show (gsW (match w2.heap[g]? with
   | some (.pending c elem) => _
   | _ => _)).drawn = _
  split <;> rfl
 refine gsIte (Nat.le_of_eq (hn w).symm) ?_
 split
 ·rw [hr]; exact Nat.le_refl _
 ·rename_i f _
  extract_lets there
  have ht : ∀ w2 : World, gsW (there w2) = w2 := fun w2 => rfl
  refine gsIte (Nat.le_of_eq (hn w).symm) (gsIte (Nat.le_of_eq (hn w).symm) ?_)
  split
  ·rw [hr]; exact Nat.le_refl _
  ·rw [ht]; exact Nat.le_refl _
  ·rw [hr]; exact Nat.le_refl _
  ·exact Nat.le_of_eq (hn w).symm
  ·refine gsIte (by rw [ht]; exact Nat.le_refl _) (gsIte (Nat.le_of_eq (hn w).symm) ?_)
   have h := ze2 (P := p) (choose (.early g)) w
   revert h
   generalize (choose (.early g)).run p w = x
   intro h
   cases x with
   | ok a w2 =>
    cases a with
    | zero => exact Nat.le_trans h (Nat.le_of_eq (hn w2).symm)
    | succ a => exact h
   | halt e w2 => exact h
end Go.Proofs.YtlhbfcfjepbhpaaGreatDoor
