/- No step of the machine takes a draw back: the goroutine's own steps. -/
import Derived.Test.YtcdeonjdipcgpaaGreatDoorQbr
import Derived.Test.YtcdeonjdipcgpaaGreatDoorQac
import Derived.RunT
set_option linter.unusedSimpArgs false
set_option linter.unusedVariables false
-- NEWM
namespace Go.Proofs.YtcdeonjdipcgpaaGreatDoor
open Go Go.RowKit
set_option maxRecDepth 100000
theorem mset_fresh {β : Type} {m0 : List (Nat × List UInt8 × β)} {k : List UInt8} {v : β} (h : MapOk m0 m0.length) (hk : k ∉ m0.map (·.2.1)) : mset m0.length k v m0 = m0 ++ [(m0.length, k, v)] ∧ mclk m0.length k m0 = m0.length + 1 ∧ MapOk (m0 ++ [(m0.length, k, v)]) (m0.length + 1) := by
 have hn := mget_none.2 hk
 have h1 : mset m0.length k v m0 = m0 ++ [(m0.length, k, v)] := zv2 hn
 have h2 : mclk m0.length k m0 = m0.length + 1 := by rw [mclk, hn]; rfl
 have h3 := h.set k v
 rw [h1, h2] at h3
 exact ⟨h1, h2, h3⟩
set_option maxHeartbeats 2000000 in
theorem jobsP_v (hSK : SortedKeysOk) (v : Value) (l : List Nt) (at_ : Int) (hl : l.length ≤ 1000000) (hs : ∀ x ∈ l, NtS x) : ACalls Tryz.prog 13 [.c (.r v (noRs l)), .c (I at_)] [] fun u H => ∃ (r : List Pr) (co : Nat), ((askF l at_ ≠ 0 ∧ r = []) ∨ (askF l at_ = 0 ∧ ∃ m0 ck, MapOk m0 ck ∧ (m0.map (·.2)).Perm ((bksF l (cntP at_ l)).1.js.filterMap stPr) ∧ r = srtP m0)) ∧ r.length ≤ 2000 ∧ r.length ≤ co ∧ u = .t [.o 0 0 r.length co, .c (I (askF l at_))] ∧ H = [.arr 56 2 co (prRs r)] := by
 by_cases h0 : askF l at_ = 0
 ·have hjl := bksF_js (at_ := at_) (zA1 (zr1 h0)).1
  have hnm := bksF_nm (at_ := at_) (zA1 (zr1 h0)).2
  have hspl := bksF_sp (at_ := at_) (zA1 (zr1 h0)).1 (zA1 (zr1 h0)).2
  have hpx : PoolIx 8 := ⟨trivial⟩
  rw [h0]
  refine zi (N := 39) Tryz.func13 rfl rfl (by simp) fun E hE => ?_
  refine WA ?_
  refine WR ?_
  refine zf rfl (zc false (fun _ => ze3 v l at_ hl hs h0) rfl .fn rfl (by decide) (by kernel_rfl) rfl (fun _ => C0 rfl) (by simp)) ?_
  rintro _ _ ⟨_, _, _, ⟨rfl, b, R1, R2, bl, rl, rk, c1, c2, hbf, hB, hbl, hrl, hrm, h1l, h2l, hc1, hc2, rfl⟩, hF, hH⟩
  (refine NST hF hH ?_; clear hF hH; rintro rfl rfl)
  refine WE ?_
  refine WA ?_
  refine za rfl ?_
  refine ZZ ?_
  rw [hbf] at hjl hnm hspl
  simp only at hjl hnm hspl
  have hJ := hB.js
  have hok : MapOk (jlF 0 b.js bl) b.js.length := jlF_ok hJ hbl
  have hjlen : (jlF 0 b.js bl).length = b.js.length := by have := congrArg List.length (zZ2 (i := 0) hbl); rw [List.length_map, List.length_range'] at this; exact this
  refine ZR ?_
  refine zf rfl (zP1 rfl rfl (by decide)) ?_
  rintro _ _ ⟨rfl, rfl⟩
  refine WE ?_
  refine ZR ?_
  iterate 4 refine WX1 ?_
  refine zf rfl (ef_range (ke := encSt) (ve := encPt) (l := jlF 0 b.js bl) (ck := b.js.length) rfl rfl (by decide) Tryz.underlying98 rfl rfl) ?_
  rintro _ _ ⟨rfl, rfl⟩
  refine WE ?_
  refine zE (fun m F H => ∃ (seen : List Nat) (m0 : List (Nat × List UInt8 × List UInt8)), unsG (jlF 0 b.js bl) seen = m ∧ m + seen.length ≤ b.js.length ∧ seen.Nodup ∧ (∀ k ∈ seen, k < b.js.length) ∧ m0.map (·.2) = fmJ stPr b.js seen ∧ MapOk m0 m0.length ∧ F = [(8, .mp 9), (25, .p 10 0 0)] ∧ H = [.box [.mp 1, .mp 2, .mp 3, .mp 4, .mp 5, .o 6 0 (R1).length c1, .o 7 0 (R2).length c2], mSP (jlF 0 b.js bl) b.js.length, mSS rl rk, mSS b.sp b.spk, mSI b.lf b.lfk, mSI b.us b.usk, .arr 3 1 c1 (nR (R1)), .arr 32 1 c2 (nR (R2)), .pool (plF jbP b.js bl), mSS m0 m0.length, .itr 1 b.js.length seen b.js.length]) ?_ ?_
  ·refine zo [some 0, some 1, some 2, some 3, some 4, some 5, some 6, some 7, some 8, some 9, some 10] (fun _ => [(8, .mp 9), (25, .p 10 0 0)]) (fun _ => [.box [.mp 1, .mp 2, .mp 3, .mp 4, .mp 5, .o 6 0 (R1).length c1, .o 7 0 (R2).length c2], mSP (jlF 0 b.js bl) b.js.length, mSS rl rk, mSS b.sp b.spk, mSI b.lf b.lfk, mSI b.us b.usk, .arr 3 1 c1 (nR (R1)), .arr 32 1 c2 (nR (R2)), .pool (plF jbP b.js bl), mSS [] 0, .itr 1 b.js.length [] b.js.length]) (by decide) (ZNL hE) ZCF ZCH (fun _ => ?_)
   exact ⟨_, [], [], rfl, by have := unsG_le (jlF 0 b.js bl) []; rw [hjlen] at this; exact this, List.nodup_nil, fun k h => (by cases h), rfl, .nil, rfl, rfl⟩
  rintro m F H ⟨seen, m0, hm, hml, hnd, hsl, hout, hm0, rfl, rfl⟩
  have hol : m0.length ≤ 2000 := by have h1 := congrArg List.length hout; rw [List.length_map] at h1; have := fmJ_len stPr b.js seen; omega
  refine ZR ?_
  refine zf rfl (ef_next (ke := encSt) (ve := encPt) (l := jlF 0 b.js bl) rfl rfl (by decide) rfl rfl rfl hok.hb (Nat.le_refl _)) ?_
  rintro _ _ (⟨⟨eb, ek, es⟩, he, hne, rfl, rfl⟩ | ⟨hall, rfl, rfl⟩)
  all_goals (refine WE ?_)
  ·refine zb rfl ?_
   obtain ⟨k, j, b0, hj, hb, heq⟩ := jlF_mem he
   injection heq with q1 q2
   injection q2 with q2 q3
   subst q1; subst q2; subst q3
   have hlt : unsG (jlF 0 b.js bl) (seen ++ [0 + k]) < unsG (jlF 0 b.js bl) seen := unsG_lt he hne
   have hin : InPool k b0 (plF jbP b.js bl) [T (stW j.st), I j.ly.length, I j.all, I j.beg, I (j.ly.getLast?.getD 0), I j.en] := ⟨zS3 hj hb⟩
   have hkm : j.nm ∉ m0.map (·.2.1) := fun h => by
    obtain ⟨e, hem, hen⟩ := List.mem_map.1 h
    have h2 : e.2 ∈ m0.map (·.2) := List.mem_map_of_mem (f := fun e : Nat × List UInt8 × List UInt8 => e.2) hem
    rw [hout] at h2
    obtain ⟨q, hq, hq2⟩ := List.mem_filterMap.1 h2
    cases hjq : b.js[q]? with
    | none => rw [hjq] at hq2; cases hq2
    | some j2 =>
     rw [hjq] at hq2
     simp only [Option.bind_some, stPr, Option.some.injEq] at hq2
     have hn2 : j2.nm = j.nm := by rw [← hen, ← hq2]
     have := hJ.nm q k j2 j hjq hj hn2
     subst this
     exact hne (by simpa using hq)
   obtain ⟨g1, g2, g3⟩ := mset_fresh (v := stW j.st) hm0 hkm
   have hnd2 : (seen ++ [0 + k]).Nodup := List.nodup_append.2 ⟨hnd, by simp, fun a ha b hb h => by simp at hb; subst hb; subst h; exact hne (by simpa using ha)⟩
   have hsl2 : ∀ q ∈ seen ++ [0 + k], q < b.js.length := fun q hq => by
    rcases List.mem_append.1 hq with hq | hq
    ·exact hsl q hq
    ·rw [List.mem_singleton, Nat.zero_add] at hq; subst hq; exact (List.getElem?_eq_some_iff.1 hj).1
   have hout2 : (m0 ++ [(m0.length, j.nm, stW j.st)]).map (·.2) = fmJ stPr b.js (seen ++ [0 + k]) := by rw [fmJ_some (f := stPr) hj rfl, List.map_append, hout]; rfl
   refine ZR ?_
   refine ZA (rd_entry (ke := encSt) (ve := encPt) (e := (0 + k, j.nm, ptrV b0)) rfl rfl rfl rfl he hok.nb) ?_
   refine WE ?_
   refine ZR ?_
   iterate 6 refine WX1 ?_
   refine zf rfl (ef_muSS (k := j.nm) (l := m0) (z := (stW j.st)) rfl rfl rfl rfl rfl rfl) ?_
   rintro _ _ ⟨rfl, rfl⟩
   refine WE ?_
   rw [g1, g2]
   refine zo [some 0, some 1, some 2, some 3, some 4, some 5, some 6, some 7, some 8, some 9, some 10] (fun _ => [(8, .mp 9), (25, .p 10 0 0)]) (fun _ => [.box [.mp 1, .mp 2, .mp 3, .mp 4, .mp 5, .o 6 0 (R1).length c1, .o 7 0 (R2).length c2], mSP (jlF 0 b.js bl) b.js.length, mSS rl rk, mSS b.sp b.spk, mSI b.lf b.lfk, mSI b.us b.usk, .arr 3 1 c1 (nR (R1)), .arr 32 1 c2 (nR (R2)), .pool (plF jbP b.js bl), mSS (m0 ++ [(m0.length, j.nm, stW j.st)]) (m0 ++ [(m0.length, j.nm, stW j.st)]).length, .itr 1 b.js.length (seen ++ [0 + k]) b.js.length]) (by decide) (ZNL hE) ZCF (by rw [List.length_append, List.length_singleton]; exact ZCH) (fun _ => ?_)
   exact ⟨_, by rw [← hm]; exact hlt, seen ++ [0 + k], _, rfl, by rw [List.length_append, List.length_singleton]; omega, hnd2, hsl2, hout2, by rw [List.length_append, List.length_singleton]; exact g3, rfl, rfl⟩
  ·refine za rfl ?_
   have hp : (m0.map (·.2)).Perm (b.js.filterMap stPr) := by
    rw [hout]
    refine fmJ_all hnd hsl fun k hk => ?_
    obtain ⟨b0, hb0⟩ : ∃ b0, bl[k]? = some b0 := ⟨_, List.getElem?_eq_getElem (by rw [hbl]; exact hk)⟩
    simpa using hall _ (jlF_in (i := 0) (List.getElem?_eq_getElem hk) hb0)
   have hkl : ∀ e ∈ m0, e.2.1.length ≤ 1000000 := fun e he => by
    have h2 : e.2 ∈ m0.map (·.2) := List.mem_map_of_mem (f := (·.2)) he
    obtain ⟨j, hj, hj2⟩ := List.mem_filterMap.1 (hp.subset h2)
    simp only [stPr, Option.some.injEq] at hj2
    have := (hnm.js j hj).2
    rw [← hj2]
    simp only
    omega
   have hsl : (srtP m0).length = m0.length := by simp [srtP, zD3]
   refine ZZ ?_
   refine WR ?_
   refine zf rfl (zq1 [9] (fun _ => [mSS m0 m0.length]) false (fun _ => pairs_v hSK m0 m0.length hm0 (by omega) hkl) rfl .fn rfl (by decide) (by kernel_rfl) rfl ZCH (by decide) ZCH (by simp)) ?_
   rintro F1 H1 ⟨_, _, _, _, ⟨co, cs, hco, rfl, rfl⟩, hF, hH⟩
   rw [zX] at hF; (refine NSU hF hH ?_; clear hF hH; rintro rfl rfl)
   refine WE ?_
   exact za1 (us := [.o 13 0 m0.length co, .c (I 0)]) [some 13] (fun _ => .t [.o 0 0 m0.length co, .c (I 0)]) (fun _ => [.arr 56 2 co (prRs (srtP m0))]) (.tmp rfl (.tmp rfl .nil)) (by decide) (ZNK rfl) (fun _ => .tL (.cons (.o rfl rfl) (.cons (.c rfl) .nil))) ZCH (fun _ => ⟨srtP m0, co, .inr ⟨rfl, m0, m0.length, hm0, by rw [hbf]; exact hp, rfl⟩, by omega, by omega, by rw [hsl], rfl⟩)
 ·refine zi (N := 39) Tryz.func13 rfl rfl (by simp) fun E hE => ?_
  refine WA ?_
  refine WR ?_
  refine zf rfl (zc false (fun _ => zf3 v l at_ hl hs h0) rfl .fn rfl (by decide) (by kernel_rfl) rfl (fun _ => C0 rfl) (by simp)) ?_
  rintro _ _ ⟨_, _, _, ⟨rfl, rfl⟩, hF, hH⟩
  (refine NST hF hH ?_; clear hF hH; rintro rfl rfl)
  refine WE ?_
  generalize askF l at_ = e at h0 ⊢
  refine WA ?_
  refine zb rfl ?_
  refine WA ?_
  exact za1 (us := [.c (.r (.slice none 0 0) []), .c (I e)]) [none] (fun _ => .t [.o 0 0 0 0, .c (I e)]) (fun _ => [.arr 56 2 0 []]) (.tmp rfl (.tmp rfl .nil)) (by decide) (ZNK rfl) (fun _ => .tL (.cons (.nil rfl) (.cons (.c rfl) .nil))) ZCH (fun _ => ⟨[], 0, .inl ⟨h0, rfl⟩, Nat.zero_le _, Nat.le_refl _, rfl, rfl⟩)
end Go.Proofs.YtcdeonjdipcgpaaGreatDoor
-- NEWM
namespace Go.Proofs.YtcdeonjdipcgpaaGreatDoor
open Go Go.RowKit
set_option maxRecDepth 100000
def gcdI (a b : Int) : Nat := Nat.gcd a.toNat b.toNat
abbrev lowR (a b : Int) : List CV := [I (a / gcdI a b), I (b / gcdI a b)]
theorem gcd_next (a b : Nat) : Nat.gcd b (a % b) = Nat.gcd a b := by
 rw [Nat.gcd_comm a b, Nat.gcd_rec b a, Nat.gcd_comm]
theorem low1_a (num den : Int) (h0 : 0 ≤ num) (h1 : num ≤ 9223372036854775807) (h2 : 1 ≤ den) (h3 : den ≤ 9223372036854775807) : ACalls Tryz.prog 69 [.c (I num), .c (I den)] [] fun u H => u = .a ((lowR num den).map .c) ∧ H = [] := by
 obtain ⟨p, rfl⟩ := Int.eq_ofNat_of_zero_le h0
 obtain ⟨q, rfl⟩ := Int.eq_ofNat_of_zero_le (Int.le_trans (by decide) h2)
 refine zi (N := 22) Tryz.func69 rfl rfl (by simp) fun E hE => ?_
 refine WA ?_
 refine WA ?_
 refine zE (fun m F H => ∃ (a : Nat), a ≤ 9223372036854775807 ∧ m ≤ 9223372036854775807 ∧ Nat.gcd a m = Nat.gcd p q ∧ F = [(0, .c (I p)), (1, .c (I q)), (4, .p 0 0 0), (5, .c (I a)), (6, .c (I m))] ∧ H = [.box [.c (I 0), .c (I 0)]]) ?_ ?_
 ·refine zo [some 0] (fun _ => [(0, .c (I p)), (1, .c (I q)), (4, .p 0 0 0), (5, .c (I p)), (6, .c (I q))]) (fun _ => _) (by decide) (ZNL hE) ZCF ZCH (fun _ => ?_)
  exact ⟨q, p, by omega, by omega, rfl, rfl, rfl⟩
 rintro m F H ⟨a, ha, hb, hg, rfl, rfl⟩
 refine WA ?_
 refine zz rfl (fun hne => ?_) (fun he => ?_)
 ·have hlt := Nat.mod_lt a (show 0 < m by omega)
  refine ZZ ?_
  refine zh [(0, none), (1, none), (2, none), (3, none), (4, none), (5, none)] zt (by kernel_rfl) ?_
  refine WQ ?_
  refine zo [some 0] (fun _ => [(0, .c (I p)), (1, .c (I q)), (4, .p 0 0 0), (5, .c (I m)), (6, .c (I (a % m : Nat)))]) (fun _ => _) (by decide) (ZNL hE) ZCF ZCH (fun _ => ?_)
  exact ⟨a % m, hlt, m, by omega, by omega, by rw [gcd_next]; exact hg, rfl, rfl⟩
 obtain rfl : m = 0 := by omega
 rw [Nat.gcd_zero_right] at hg
 have hg1 : 0 < a := by rw [hg]; exact Nat.gcd_pos_of_pos_right _ (by omega)
 refine ZZ ?_
 refine zh [(0, none), (1, none), (2, none), (3, none), (4, none), (5, none), (6, none), (7, some [])] zt (by kernel_rfl) ?_
 refine WQ ?_
 refine aret_a [] [] rfl (KK (t := 60) rfl) rfl (Cells.box rfl) (by simp) (by (try simp only [nm, putL, Nat.reduceAdd, cellsOf, cvOf]) <;> rfl) (by decide) (ZNK rfl) (fun _ => C0 rfl) (fun _ => .nil) ⟨?_, rfl⟩
 rw [hg]; rfl
def pacF (l : List Nt) (s : List UInt8) (at_ : Int) : Int × Int × Bool := if jobE l s at_ ≠ 0 then (0, 0, false) else match (nmI (bksF l (cntP at_ l)).1.js s).bind fun k => (bksF l (cntP at_ l)).1.js[k]? with
 | some j => if (j.ly.length : Int) = 0 then (0, 0, false) else ((j.ly.getLast?.getD 0 - j.beg) / gcdI (j.ly.getLast?.getD 0 - j.beg) j.ly.length, (j.ly.length : Int) / gcdI (j.ly.getLast?.getD 0 - j.beg) j.ly.length, true)
 | none => (0, 0, false)
theorem jobE_ask {l : List Nt} {s : List UInt8} {at_ : Int} (h : jobE l s at_ = 0) : askF l at_ = 0 := by
 unfold jobE at h
 split at h
 ·rename_i h1; exact absurd h h1
 ·rename_i h1; exact Decidable.not_not.1 h1
theorem pace_v (v : Value) (l : List Nt) (at_ : Int) (hl : l.length ≤ 1000000) (hs : ∀ x ∈ l, NtS x) (s : List UInt8) (hsl : s.length ≤ 1000000) : ACalls Tryz.prog 33 [.c (.r v (noRs l)), .c (T s), .c (I at_)] [] fun u H => u = .t [.a [.c (I (pacF l s at_).1), .c (I (pacF l s at_).2.1)], .c (B (pacF l s at_).2.2), .c (I (jobE l s at_))] ∧ H = [] := by
 have hjobat := jobat_v v l at_ hl hs s hsl
 have hpx : PoolIx 1 := ⟨trivial⟩
 refine zi (N := 43) Tryz.func33 rfl rfl (by simp) fun E hE => ?_
 refine WA ?_
 refine WR ?_
 refine zf rfl (zc false (fun _ => hjobat) rfl .fn rfl (by decide) (by kernel_rfl) rfl (fun _ => C0 rfl) (by simp)) ?_
 rintro _ _ ⟨_, _, _, (⟨he, rfl, rfl⟩ | ⟨he, k, b0, j, pl, hnk, hj, hB, hin, rfl, rfl⟩), hF, hH⟩
 all_goals ((refine NST hF hH ?_; clear hF hH; rintro rfl rfl))
 all_goals (refine WE ?_)
 ·have hp : pacF l s at_ = (0, 0, false) := by unfold pacF; rw [if_pos he]
  rw [hp]
  generalize jobE l s at_ = e at he ⊢
  refine WA ?_
  refine zb rfl ?_
  refine WA ?_
  exact za1 (us := [.a [.c (I 0), .c (I 0)], .c (B false), .c (I e)]) [] (fun g' => .t [.a [.c (I 0), .c (I 0)], .c (B false), .c (I e)]) (fun _ => []) (.cella (n := 2) rfl (by kernel_rfl) (Cells.box rfl) (by simp) (by (try simp only [nm, putL, Nat.reduceAdd, cellsOf, cvOf]) <;> rfl) (.tmp rfl (.tmp rfl .nil))) (by decide) (fun i hi => absurd hi (Nat.not_lt_zero i)) (fun g' => .tL (.cons (.aL (.cons (.c rfl) (.cons (.c rfl) .nil))) (.cons (.c rfl) (.cons (.c rfl) .nil)))) (fun _ => .nil) (fun g' => ⟨rfl, rfl⟩)
 ·have hjk := bksF_jk at_ (zr1 (jobE_ask he))
  obtain ⟨t1, t2, t3⟩ := hjk.tim j (List.mem_of_getElem? hj)
  have hp0 : pacF l s at_ = if (j.ly.length : Int) = 0 then (0, 0, false) else ((j.ly.getLast?.getD 0 - j.beg) / gcdI (j.ly.getLast?.getD 0 - j.beg) j.ly.length, (j.ly.length : Int) / gcdI (j.ly.getLast?.getD 0 - j.beg) j.ly.length, true) := by unfold pacF; rw [if_neg (by simpa using he), hnk]; simp [hj]
  have hall := hB.js.all j (List.mem_of_getElem? hj)
  rw [hp0, he]
  have hin2 : InPool k b0 pl [T (stW j.st), I j.ly.length, I j.all, I j.beg, I (j.ly.getLast?.getD 0), I j.en] := hin
  by_cases hz : (j.ly.length : Int) = 0
  ·rw [if_pos hz]
   refine WA ?_
   refine zb rfl ?_
   refine WA ?_
   exact za1 (us := [.a [.c (I 0), .c (I 0)], .c (B false), .c (I 0)]) [] (fun g' => .t [.a [.c (I 0), .c (I 0)], .c (B false), .c (I 0)]) (fun _ => []) (.cella (n := 2) rfl (by kernel_rfl) (Cells.box rfl) (by simp) (by (try simp only [nm, putL, Nat.reduceAdd, cellsOf, cvOf]) <;> rfl) (.tmp rfl (.tmp rfl .nil))) (by decide) (fun i hi => absurd hi (Nat.not_lt_zero i)) (fun g' => .tL (.cons (.aL (.cons (.c rfl) (.cons (.c rfl) .nil))) (.cons (.c rfl) (.cons (.c rfl) .nil)))) (fun _ => .nil) (fun g' => ⟨rfl, rfl⟩)
  ·rw [if_neg hz]
   have hlast : j.beg ≤ j.ly.getLast?.getD 0 ∧ j.ly.getLast?.getD 0 ≤ 345686399999 := by
    cases hq : j.ly.getLast? with
    | none => rw [List.getLast?_eq_none_iff.1 hq] at hz; exact absurd rfl hz
    | some m => exact t3 m (List.mem_of_getLast? hq)
   generalize j.ly.getLast?.getD 0 = la at hlast hin2 ⊢
   have hn1 : 1 ≤ (j.ly.length : Int) := by omega
   generalize (j.ly.length : Int) = n at hz hall hn1 hin2 ⊢
   refine WA ?_
   refine za rfl ?_
   refine ZZ ?_
   refine zh [(0, none), (1, none), (2, none), (3, none), (4, none), (5, none), (6, none), (7, none), (8, none), (9, none), (10, none), (11, none), (12, none), (13, some []), (14, some []), (15, none), (16, none)] zt (by kernel_rfl) ?_
   refine WP ?_
   refine zb2 rfl rfl (zc false (fun _ => low1_a (la - j.beg) n (by omega) (by omega) (by omega) (by omega)) rfl .fn rfl (by decide) (by kernel_rfl) rfl (fun _ => C0 rfl) (by simp)) ?_
   rintro _ _ ⟨_, _, _, ⟨rfl, rfl⟩, hF, hH⟩
   (refine NST hF hH ?_; clear hF hH; rintro rfl rfl)
   refine ⟨zm, ?_⟩
   refine WQ ?_
   exact za1 (us := [.a [.c (I ((la - j.beg) / gcdI (la - j.beg) n)), .c (I (n / gcdI (la - j.beg) n))], .c (B true), .c (I 0)]) [] (fun g' => .t [.a [.c (I ((la - j.beg) / gcdI (la - j.beg) n)), .c (I (n / gcdI (la - j.beg) n))], .c (B true), .c (I 0)]) (fun _ => []) (.cella (n := 2) rfl (by kernel_rfl) (Cells.box rfl) (by simp) (by (try simp only [nm, putL, Nat.reduceAdd, cellsOf, cvOf]) <;> rfl) (.tmp rfl (.tmp rfl .nil))) (by decide) (fun i hi => absurd hi (Nat.not_lt_zero i)) (fun g' => .tL (.cons (.aL (.cons (.c rfl) (.cons (.c rfl) .nil))) (.cons (.c rfl) (.cons (.c rfl) .nil)))) (fun _ => .nil) (fun g' => ⟨rfl, rfl⟩)
end Go.Proofs.YtcdeonjdipcgpaaGreatDoor
-- NEWM
namespace Go.Proofs.YtcdeonjdipcgpaaGreatDoor
open Go Go.RowKit
set_option maxRecDepth 100000
def fPr (j : Jb) : Option Unit := if j.st = 2 then some () else none
def ePr (j : Jb) : Option Unit := if j.st = 0 then none else some ()
def fldF (l : List Nt) (at_ : Int) : Int × Int × Int := if askF l at_ ≠ 0 then (0, 0, askF l at_) else if ((bksF l (cntP at_ l)).1.js.filterMap ePr).length = 0 then (0, 0, 8) else ((((bksF l (cntP at_ l)).1.js.filterMap fPr).length : Int) / gcdI ((bksF l (cntP at_ l)).1.js.filterMap fPr).length ((bksF l (cntP at_ l)).1.js.filterMap ePr).length, (((bksF l (cntP at_ l)).1.js.filterMap ePr).length : Int) / gcdI ((bksF l (cntP at_ l)).1.js.filterMap fPr).length ((bksF l (cntP at_ l)).1.js.filterMap ePr).length, 0)
set_option maxHeartbeats 2000000 in
theorem failed_v (v : Value) (l : List Nt) (at_ : Int) (hl : l.length ≤ 1000000) (hs : ∀ x ∈ l, NtS x) : ACalls Tryz.prog 36 [.c (.r v (noRs l)), .c (I at_)] [] fun u H => u = .t [.a [.c (I (fldF l at_).1), .c (I (fldF l at_).2.1)], .c (I (fldF l at_).2.2)] ∧ H = [] := by
 by_cases h0 : askF l at_ = 0
 ·have hjl := bksF_js (at_ := at_) (zA1 (zr1 h0)).1
  have hf0 : fldF l at_ = if ((bksF l (cntP at_ l)).1.js.filterMap ePr).length = 0 then (0, 0, 8) else ((((bksF l (cntP at_ l)).1.js.filterMap fPr).length : Int) / gcdI ((bksF l (cntP at_ l)).1.js.filterMap fPr).length ((bksF l (cntP at_ l)).1.js.filterMap ePr).length, (((bksF l (cntP at_ l)).1.js.filterMap ePr).length : Int) / gcdI ((bksF l (cntP at_ l)).1.js.filterMap fPr).length ((bksF l (cntP at_ l)).1.js.filterMap ePr).length, 0) := by unfold fldF; rw [if_neg (by simpa using h0)]
  refine zi (N := 51) Tryz.func36 rfl rfl (by simp) fun E hE => ?_
  refine WA ?_
  refine WR ?_
  refine zf rfl (zc false (fun _ => ze3 v l at_ hl hs h0) rfl .fn rfl (by decide) (by kernel_rfl) rfl (fun _ => C0 rfl) (by simp)) ?_
  rintro _ _ ⟨_, _, _, ⟨rfl, b, R1, R2, bl, rl, rk, c1, c2, hbf, hB, hbl, hrl, hrm, h1l, h2l, hc1, hc2, rfl⟩, hF, hH⟩
  (refine NST hF hH ?_; clear hF hH; rintro rfl rfl)
  refine WE ?_
  refine WA ?_
  refine za rfl ?_
  refine ZZ ?_
  rw [hbf] at hjl hf0
  simp only at hjl hf0
  have hJ := hB.js
  have hok : MapOk (jlF 0 b.js bl) b.js.length := jlF_ok hJ hbl
  have hjlen : (jlF 0 b.js bl).length = b.js.length := by have := congrArg List.length (zZ2 (i := 0) hbl); rw [List.length_map, List.length_range'] at this; exact this
  refine WA ?_
  refine ZR ?_
  iterate 4 refine WX1 ?_
  refine zf rfl (ef_range (ke := encSt) (ve := encPt) (l := jlF 0 b.js bl) (ck := b.js.length) rfl rfl (by decide) Tryz.underlying98 rfl rfl) ?_
  rintro _ _ ⟨rfl, rfl⟩
  refine WE ?_
  refine zE (fun m F H => ∃ (seen : List Nat) (nb na : Nat), unsG (jlF 0 b.js bl) seen = m ∧ m + seen.length ≤ b.js.length ∧ seen.Nodup ∧ (∀ k ∈ seen, k < b.js.length) ∧ (fmJ fPr b.js seen).length = nb ∧ (fmJ ePr b.js seen).length = na ∧ F = [(4, .p 0 0 0), (8, .c (I nb)), (9, .c (I na)), (26, .p 3 0 0)] ∧ H = [.box [.c (I 0), .c (I 0)], mSP (jlF 0 b.js bl) b.js.length, .pool (plF jbP b.js bl), .itr 1 b.js.length seen b.js.length]) ?_ ?_
  ·refine zo [some 0, some 2, some 9, some 10] (fun _ => [(4, .p 0 0 0), (8, .c (I (0 : Nat))), (9, .c (I (0 : Nat))), (26, .p 3 0 0)]) (fun _ => [.box [.c (I 0), .c (I 0)], mSP (jlF 0 b.js bl) b.js.length, .pool (plF jbP b.js bl), .itr 1 b.js.length [] b.js.length]) (by decide) (ZNL hE) ZCF ZCH (fun _ => ?_)
   exact ⟨_, [], 0, 0, rfl, by have := unsG_le (jlF 0 b.js bl) []; rw [hjlen] at this; exact this, List.nodup_nil, fun k h => (by cases h), rfl, rfl, rfl, rfl⟩
  rintro m F H ⟨seen, nb, na, hm, hml, hnd, hsl, hnb, hna, rfl, rfl⟩
  have hnbl : nb ≤ seen.length := by rw [← hnb]; exact fmJ_len fPr b.js seen
  have hnal : na ≤ seen.length := by rw [← hna]; exact fmJ_len ePr b.js seen
  refine ZR ?_
  refine zf rfl (ef_next (ke := encSt) (ve := encPt) (l := jlF 0 b.js bl) rfl rfl (by decide) rfl rfl rfl hok.hb (Nat.le_refl _)) ?_
  rintro _ _ (⟨⟨eb, ek, es⟩, he, hne, rfl, rfl⟩ | ⟨hall, rfl, rfl⟩)
  all_goals (refine WE ?_)
  ·refine zb rfl ?_
   have hpx : PoolIx 2 := ⟨trivial⟩
   obtain ⟨k, j, b0, hj, hb, heq⟩ := jlF_mem he
   injection heq with q1 q2
   injection q2 with q2 q3
   subst q1; subst q2; subst q3
   have hlt : unsG (jlF 0 b.js bl) (seen ++ [0 + k]) < unsG (jlF 0 b.js bl) seen := unsG_lt he hne
   have hin : InPool k b0 (plF jbP b.js bl) [T (stW j.st), I j.ly.length, I j.all, I j.beg, I (j.ly.getLast?.getD 0), I j.en] := ⟨zS3 hj hb⟩
   have hnd2 : (seen ++ [0 + k]).Nodup := List.nodup_append.2 ⟨hnd, by simp, fun a ha b hb h => by simp at hb; subst hb; subst h; exact hne (by simpa using ha)⟩
   have hsl2 : ∀ q ∈ seen ++ [0 + k], q < b.js.length := fun q hq => by
    rcases List.mem_append.1 hq with hq | hq
    ·exact hsl q hq
    ·rw [List.mem_singleton, Nat.zero_add] at hq; subst hq; exact (List.getElem?_eq_some_iff.1 hj).1
   have hsl3 : (seen ++ [0 + k]).length = seen.length + 1 := by simp
   refine ZR ?_
   refine ZA (rd_entry (ke := encSt) (ve := encPt) (e := (0 + k, j.nm, ptrV b0)) rfl rfl rfl rfl he hok.nb) ?_
   refine WE ?_
   rcases hJ.st j (List.mem_of_getElem? hj) with hst | hst | hst
   ·rw [hst] at hin
    have e1 := fmJ_none (f := fPr) (seen := seen) hj (by unfold fPr; rw [hst]; rfl)
    have e2 := fmJ_none (f := ePr) (seen := seen) hj (by unfold ePr; rw [hst]; rfl)
    refine ZR ?_
    iterate 4 refine WX1 ?_
    refine ZA (zd (a := [114, 117, 110, 115]) (b := [114, 117, 110, 115]) (q := false) (by decide) rfl Tryz.underlying9 rfl rfl) ?_
    refine WE ?_
    refine za rfl ?_
    refine ZZ ?_
    refine ZR ?_
    iterate 4 refine WX1 ?_
    refine ZA (zV (a := [114, 117, 110, 115]) (b := [102, 97, 105, 108, 101, 100]) (q := false) (by decide) rfl Tryz.underlying9 rfl rfl) ?_
    refine WE ?_
    refine za rfl ?_
    refine ZZ ?_
    refine zo [some 0, some 1, some 2, some 3] (fun _ => [(4, .p 0 0 0), (8, .c (I nb)), (9, .c (I na)), (26, .p 3 0 0)]) (fun _ => [.box [.c (I 0), .c (I 0)], mSP (jlF 0 b.js bl) b.js.length, .pool (plF jbP b.js bl), .itr 1 b.js.length (seen ++ [0 + k]) b.js.length]) (by decide) (ZNL hE) ZCF ZCH (fun _ => ?_)
    exact ⟨_, by rw [← hm]; exact hlt, seen ++ [0 + k], nb, na, rfl, by omega, hnd2, hsl2, by rw [e1]; exact hnb, by rw [e2]; exact hna, rfl, rfl⟩
   ·rw [hst] at hin
    have e1 := fmJ_none (f := fPr) (seen := seen) hj (by unfold fPr; rw [hst]; rfl)
    have e2 := fmJ_some (f := ePr) (seen := seen) hj (p := ()) (by unfold ePr; rw [hst]; rfl)
    refine ZR ?_
    iterate 4 refine WX1 ?_
    refine ZA (zd (a := [100, 111, 110, 101]) (b := [114, 117, 110, 115]) (q := true) (by decide) rfl Tryz.underlying9 rfl rfl) ?_
    refine WE ?_
    refine zb rfl ?_
    refine WA ?_
    refine ZR ?_
    iterate 4 refine WX1 ?_
    refine ZA (zV (a := [100, 111, 110, 101]) (b := [102, 97, 105, 108, 101, 100]) (q := false) (by decide) rfl Tryz.underlying9 rfl rfl) ?_
    refine WE ?_
    refine za rfl ?_
    refine ZZ ?_
    refine zo [some 0, some 1, some 2, some 3] (fun _ => [(4, .p 0 0 0), (8, .c (I nb)), (9, .c (I (na + 1 : Nat))), (26, .p 3 0 0)]) (fun _ => [.box [.c (I 0), .c (I 0)], mSP (jlF 0 b.js bl) b.js.length, .pool (plF jbP b.js bl), .itr 1 b.js.length (seen ++ [0 + k]) b.js.length]) (by decide) (ZNL hE) ZCF ZCH (fun _ => ?_)
    exact ⟨_, by rw [← hm]; exact hlt, seen ++ [0 + k], nb, na + 1, rfl, by omega, hnd2, hsl2, by rw [e1]; exact hnb, by rw [e2]; simp [hna], rfl, rfl⟩
   ·rw [hst] at hin
    have e1 := fmJ_some (f := fPr) (seen := seen) hj (p := ()) (by unfold fPr; rw [hst]; rfl)
    have e2 := fmJ_some (f := ePr) (seen := seen) hj (p := ()) (by unfold ePr; rw [hst]; rfl)
    refine ZR ?_
    iterate 4 refine WX1 ?_
    refine ZA (zd (a := [102, 97, 105, 108, 101, 100]) (b := [114, 117, 110, 115]) (q := true) (by decide) rfl Tryz.underlying9 rfl rfl) ?_
    refine WE ?_
    refine zb rfl ?_
    refine WA ?_
    refine ZR ?_
    iterate 4 refine WX1 ?_
    refine ZA (zV (a := [102, 97, 105, 108, 101, 100]) (b := [102, 97, 105, 108, 101, 100]) (q := true) (by decide) rfl Tryz.underlying9 rfl rfl) ?_
    refine WE ?_
    refine zb rfl ?_
    refine WA ?_
    refine zo [some 0, some 1, some 2, some 3] (fun _ => [(4, .p 0 0 0), (8, .c (I (nb + 1 : Nat))), (9, .c (I (na + 1 : Nat))), (26, .p 3 0 0)]) (fun _ => [.box [.c (I 0), .c (I 0)], mSP (jlF 0 b.js bl) b.js.length, .pool (plF jbP b.js bl), .itr 1 b.js.length (seen ++ [0 + k]) b.js.length]) (by decide) (ZNL hE) ZCF ZCH (fun _ => ?_)
    exact ⟨_, by rw [← hm]; exact hlt, seen ++ [0 + k], nb + 1, na + 1, rfl, by omega, hnd2, hsl2, by rw [e1]; simp [hnb], by rw [e2]; simp [hna], rfl, rfl⟩
  ·refine za rfl ?_
   have hallk : ∀ k, k < b.js.length → k ∈ seen := fun k hk => by
    obtain ⟨b0, hb0⟩ : ∃ b0, bl[k]? = some b0 := ⟨_, List.getElem?_eq_getElem (by rw [hbl]; exact hk)⟩
    simpa using hall _ (jlF_in (i := 0) (List.getElem?_eq_getElem hk) hb0)
   have p1 := (fmJ_all (f := fPr) hnd hsl hallk).length_eq
   have p2 := (fmJ_all (f := ePr) hnd hsl hallk).length_eq
   rw [hnb] at p1
   rw [hna] at p2
   rw [← p1, ← p2] at hf0
   clear p1 p2 hall hallk
   rw [hf0]
   refine ZZ ?_
   refine WA ?_
   refine zz rfl (fun hz => ?_) (fun hz => ?_)
   ·rw [if_pos (by omega)]
    refine WA ?_
    exact za1 (us := [.a [.c (I 0), .c (I 0)], .c (I 8)]) [] (fun g' => .t [.a [.c (I 0), .c (I 0)], .c (I 8)]) (fun _ => []) (.cella (n := 2) rfl (by kernel_rfl) (Cells.box rfl) (by simp) (by (try simp only [nm, putL, Nat.reduceAdd, cellsOf, cvOf]) <;> rfl) (.tmp rfl .nil)) (by decide) (fun i hi => absurd hi (Nat.not_lt_zero i)) (fun g' => .tL (.cons (.aL (.cons (.c rfl) (.cons (.c rfl) .nil))) (.cons (.c rfl) .nil))) (fun _ => .nil) (fun g' => ⟨rfl, rfl⟩)
   ·rw [if_neg (by omega)]
    refine ZZ ?_
    refine WR ?_
    refine zf rfl (zc false (fun _ => low1_a nb na (by omega) (by omega) (by omega) (by omega)) rfl .fn rfl (by decide) (by kernel_rfl) rfl (fun _ => C0 rfl) (by simp)) ?_
    rintro _ _ ⟨_, _, _, ⟨rfl, rfl⟩, hF, hH⟩
    (refine NST hF hH ?_; clear hF hH; rintro rfl rfl)
    refine WE ?_
    exact za1 (us := [.a [.c (I ((nb : Int) / gcdI nb na)), .c (I ((na : Int) / gcdI nb na))], .c (I 0)]) [] (fun g' => .t [.a [.c (I ((nb : Int) / gcdI nb na)), .c (I ((na : Int) / gcdI nb na))], .c (I 0)]) (fun _ => []) (.cella (n := 2) rfl (by kernel_rfl) (Cells.box rfl) (by simp) (by (try simp only [nm, putL, Nat.reduceAdd, cellsOf, cvOf]) <;> rfl) (.tmp rfl .nil)) (by decide) (fun i hi => absurd hi (Nat.not_lt_zero i)) (fun g' => .tL (.cons (.aL (.cons (.c rfl) (.cons (.c rfl) .nil))) (.cons (.c rfl) .nil))) (fun _ => .nil) (fun g' => ⟨rfl, rfl⟩)
 ·have hf0 : fldF l at_ = (0, 0, askF l at_) := by unfold fldF; rw [if_pos h0]
  rw [hf0]
  refine zi (N := 51) Tryz.func36 rfl rfl (by simp) fun E hE => ?_
  refine WA ?_
  refine WR ?_
  refine zf rfl (zc false (fun _ => zf3 v l at_ hl hs h0) rfl .fn rfl (by decide) (by kernel_rfl) rfl (fun _ => C0 rfl) (by simp)) ?_
  rintro _ _ ⟨_, _, _, ⟨rfl, rfl⟩, hF, hH⟩
  (refine NST hF hH ?_; clear hF hH; rintro rfl rfl)
  refine WE ?_
  generalize askF l at_ = e at h0 ⊢
  refine WA ?_
  refine zb rfl ?_
  refine WA ?_
  exact za1 (us := [.a [.c (I 0), .c (I 0)], .c (I e)]) [] (fun g' => .t [.a [.c (I 0), .c (I 0)], .c (I e)]) (fun _ => []) (.cella (n := 2) rfl (by kernel_rfl) (Cells.box rfl) (by simp) (by (try simp only [nm, putL, Nat.reduceAdd, cellsOf, cvOf]) <;> rfl) (.tmp rfl .nil)) (by decide) (fun i hi => absurd hi (Nat.not_lt_zero i)) (fun g' => .tL (.cons (.aL (.cons (.c rfl) (.cons (.c rfl) .nil))) (.cons (.c rfl) .nil))) (fun _ => .nil) (fun g' => ⟨rfl, rfl⟩)
end Go.Proofs.YtcdeonjdipcgpaaGreatDoor
namespace Go.Proofs.YtcdeonjdipcgpaaGreatDoor
open Go Go.RowKit
def resW {α : Type} : Result α → World
 | .ok _ w => w
 | .halt _ w => w
theorem zg2 {α : Type} {P : Program} : ∀ (s : Sem α) (w : World), w.drawn ≤ (resW (s.run P w)).drawn := by
 intro s
 induction s with
 | pure a => intro w; exact Nat.le_refl _
 | load m a k ih =>
  intro w
  simp only [Sem.run]
  repeat' split
  all_goals first | exact ih _ _ | exact Nat.le_refl _
 | store m a x k ih =>
  intro w
  cases x <;> simp only [Sem.run]
  all_goals first
   | exact Nat.le_refl _
   | (split
      ·split
       ·exact Nat.le_refl _
       ·exact ih (w.setCell a _)
      ·split
       ·rename_i h1; exact Nat.le_trans (zj3 h1) (ih _)
       ·exact Nat.le_refl _)
 | new o k ih => intro w; simp only [Sem.run]; exact ih _ { w with heap := w.heap.push o }
 | shape r k ih => intro w; simp only [Sem.run]; exact ih _ _
 | freeze a n k ih =>
  intro w; simp only [Sem.run]
  have := ih (w.freeze a n)
  refine Nat.le_trans (Nat.le_of_eq ?_) this
  unfold World.freeze
  split <;> rfl
 | frozen a k ih => intro w; simp only [Sem.run]; exact ih _ _
 | getObj r k ih =>
  intro w; simp only [Sem.run]
  split
  ·exact Nat.le_refl _
  ·exact ih _ _
  ·exact Nat.le_refl _
 | setObj r o k ih =>
  intro w; simp only [Sem.run]
  split
  ·exact Nat.le_refl _
  ·exact ih { w with heap := w.heap.setIfInBounds r o }
  ·exact Nat.le_refl _
 | choose q k ih =>
  intro w; simp only [Sem.run]
  split
  ·exact ih _ _
  ·exact Nat.le_trans (Nat.le_succ _) (ih _ { w with drawn := w.drawn + 1 })
 | sys c k ih => intro w; simp only [Sem.run]; exact Nat.le_trans (sys_drawn w c) (ih _ _)
 | program k ih => intro w; simp only [Sem.run]; exact ih _ _
 | mark m k ih => intro w; simp only [Sem.run]; exact ih _
 | halt h => intro w; exact Nat.le_refl _
theorem zC1 {α : Type} {P : Program} (s : Sem α) (w : World) (es : Array Event) : w.drawn ≤ (resW (s.runT P w es).1).drawn := by
 rw [Sem.runT_fst]
 exact zg2 s w
def gsW : GStep → World
 | .go _ w _ => w
 | .comm _ _ _ _ w _ => w
 | .spawn _ _ w _ => w
 | .count _ w _ => w
 | .timer _ _ w _ => w
 | .alone _ _ w _ => w
 | .newcoro _ _ _ w _ => w
 | .coroswitch _ _ _ w _ => w
 | .collect _ w _ => w
 | .watch _ w _ => w
 | .ended _ w _ => w
theorem zZ1 (es : Array Event) (g : GStep) : gsW (g.after es) = gsW g := by cases g <;> rfl
theorem zr2 (p : Program) (main : Bool) (fr : Frame) (cs : List Frame) (d : Option Dying) (v : Value) (w : World) : gsW (doReturn p main fr cs d v w) = w := by
 unfold doReturn
 repeat' split
 all_goals rfl
end Go.Proofs.YtcdeonjdipcgpaaGreatDoor
namespace Go.Proofs.YtcdeonjdipcgpaaGreatDoor
open Go Go.RowKit
theorem zk3 (fr : Frame) (m : String) (w : World) : gsW (endThrow fr m w) = w := rfl
theorem zz2 (p : Program) (fr : Frame) (v : Value) (w : World) : gsW (endPrinting p fr v w) = w := by
 unfold endPrinting
 dsimp only
 repeat' split
 all_goals rfl
theorem endWith_drawn (w : World) (fd : Nat) (t : ByteArray) (o : Outcome) : w.drawn ≤ (gsW (endWith w fd t o)).drawn := by
 have h := sys_drawn w (.write fd t)
 unfold endWith
 revert h
 generalize w.sys (.write fd t) = x
 obtain ⟨a, w2⟩ := x
 intro h
 simp only at h ⊢
 repeat' split
 all_goals (rename_i heq; first | (cases heq; exact h) | (rename_i heq2; cases heq2; exact h) | (rename_i _ heq2; cases heq2; exact h) | simp_all [gsW])
theorem gsIte {c : Prop} [Decidable c] {a b : GStep} {n : Nat} (h1 : n ≤ (gsW a).drawn) (h2 : n ≤ (gsW b).drawn) : n ≤ (gsW (if c then a else b)).drawn := by
 split
 ·exact h1
 ·exact h2
theorem zQ3 (hF : ∀ (p : Program) (fr : Frame) (cs : List Frame) (d : Option Dying) (m : String) (w : World), w.drawn ≤ (gsW (endFatal p fr cs d m w)).drawn) (p : Program) (fr : Frame) (cs : List Frame) (d : Option Dying) (df : Deferred) (w : World) : w.drawn ≤ (gsW (callDeferred p fr cs d df w)).drawn := by
 unfold callDeferred
 refine gsIte (Nat.le_refl _) ?_
 ·have h := zC1 (P := p) (invoke df.target df.args) w #[]
  revert h
  generalize (invoke df.target df.args).runT p w #[] = x
  obtain ⟨r, es⟩ := x
  intro h
  simp only [zZ1] at h ⊢
  cases r with
  | ok n w2 =>
   cases n <;> (try simp only)
   all_goals first
    | exact h
    | (rename_i q1 q2; cases q2 <;> exact h)
    | (rename_i q1 q2; cases q1 <;> exact h)
    | (repeat' split
       all_goals exact h)
  | halt e w2 =>
   cases e <;> (try simp only)
   all_goals first
    | exact h
    | exact Nat.le_trans h (hF _ _ _ _ _ _)
    | (repeat' split
       all_goals exact h)
theorem unwind_drawn (hF : ∀ (p : Program) (fr : Frame) (cs : List Frame) (d : Option Dying) (m : String) (w : World), w.drawn ≤ (gsW (endFatal p fr cs d m w)).drawn) (p : Program) (main : Bool) (fr : Frame) (cs : List Frame) (d : Option Dying) (w : World) : w.drawn ≤ (gsW (unwind p main fr cs d w)).drawn := by
 unfold unwind
 split
 ·rename_i block _ ds _
  have h := zC1 (P := p) (Instr.takeDeferred block) w #[]
  revert h
  generalize (Instr.takeDeferred block).runT p w #[] = x
  obtain ⟨r, es⟩ := x
  intro h
  simp only [zZ1] at h ⊢
  cases r <;> exact h
 ·exact zQ3 hF _ _ _ _ _ _
 ·split
  ·exact Nat.le_refl _
  ·rename_i chain _
   split
   ·exact Nat.le_refl _
   ·split
    ·exact Nat.le_refl _
    ·split
     ·split
      ·exact Nat.le_refl _
      ·have h := zg2 (P := p) (reportChain chain false) w
       revert h
       generalize (reportChain chain false).run p w = x
       intro h
       cases x with
       | ok a w2 => exact h
       | halt e w2 => cases e <;> exact h
     ·split
      ·rw [zz2]; exact Nat.le_refl _
      ·exact Nat.le_refl _
  ·split
   ·rw [zr2]; exact Nat.le_refl _
   ·rename_i fn _
    have h := zC1 (P := p) (results fn fr.tmps) w #[]
    revert h
    generalize (results fn fr.tmps).runT p w #[] = x
    obtain ⟨r, es⟩ := x
    intro h
    simp only [zZ1] at h ⊢
    cases r with
    | ok a w2 => simp only; rw [zr2]; exact h
    | halt e w2 => cases e <;> exact h
end Go.Proofs.YtcdeonjdipcgpaaGreatDoor
