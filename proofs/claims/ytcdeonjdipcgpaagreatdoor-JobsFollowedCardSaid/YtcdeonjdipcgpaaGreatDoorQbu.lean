/- slices.Equal of pairs, numbers and errors, by value. -/
import Derived.Test.YtcdeonjdipcgpaaGreatDoorQbt
import Derived.Test.YtcdeonjdipcgpaaGreatDoorQbh
set_option linter.unusedSimpArgs false
set_option linter.unusedVariables false
-- NEWM
namespace Go.Proofs.YtcdeonjdipcgpaaGreatDoor
open Go Go.RowKit
set_option maxRecDepth 100000
theorem bkK_ok {l : List Nt} (hl : ∀ x ∈ l, ntF x = 0) (ix : List Int) : ∀ k, BkOk (bkK l ix k).1 k
 | 0 => .zero
 | k + 1 => by
  have h := bkK_ok hl ix k
  rw [bkK]
  split
  ·split
   ·rename_i x hx
    unfold bkStep
    split
    ·exact h.more
    ·rename_i hr
     exact h.next (hl x (List.mem_of_getElem? hx)) (Decidable.not_not.1 hr)
   ·exact h.more
  ·exact h.more
theorem BkOk.le {b : Bk} {k n : Nat} (h : BkOk b k) (hk : k ≤ n) : BkOk b n := ⟨h.js, h.sp, h.lf, h.us, h.l, fun s => ⟨(h.u s).1, by have := (h.u s).2; omega⟩⟩
theorem cntP_len (at_ : Int) (l : List Nt) : (cntP at_ l).length ≤ l.length := by
 have := zf3 at_ l l.length (Nat.le_refl _)
 unfold cntP
 rw [List.length_reverse]
 omega
theorem bksF_ok {l : List Nt} (at_ : Int) (h : chkN l = 0) : BkOk (bksF l (cntP at_ l)).1 2000 := by
 obtain ⟨h1, h2⟩ := zH h
 have := cntP_len at_ l
 exact (bkK_ok h2 _ _).le (by omega)
theorem run_same {l : List Nt} {at_ : Int} {r l2 : List Pr} (hr : (askF l at_ ≠ 0 ∧ r = []) ∨ (askF l at_ = 0 ∧ ∃ rl rk, RunOk (bksF l (cntP at_ l)).1.js rl ∧ MapOk rl rk ∧ r = srtP rl)) (h0 : askF l at_ = 0) (hp : l2.Perm ((bksF l (cntP at_ l)).1.js.filterMap rnPr)) (hs : l2.Pairwise fun a b => ¬ cmpB b.1 a.1 < 0) : l2 = r := by
 rcases hr with ⟨h, _⟩ | ⟨_, rl, rk, h1, h2, rfl⟩
 ·exact absurd h0 h
 ·exact (srtP_uniq h2 (hp.trans (run_perm (bksF_ok at_ (zf1 h0)).js h1 h2)) hs).symm
theorem map_same {e : Int} {L r l2 : List Pr} (hr : (e ≠ 0 ∧ r = []) ∨ (e = 0 ∧ ∃ m0 ck, MapOk m0 ck ∧ (m0.map (·.2)).Perm L ∧ r = srtP m0)) (h0 : e = 0) (hp : l2.Perm L) (hs : l2.Pairwise fun a b => ¬ cmpB b.1 a.1 < 0) : l2 = r := by
 rcases hr with ⟨h, _⟩ | ⟨_, m0, ck, h1, h2, rfl⟩
 ·exact absurd h0 h
 ·exact (srtP_uniq h1 (hp.trans h2.symm) hs).symm
theorem prg_no {l : List Nt} {s : List UInt8} {at_ : Int} (h : jobE l s at_ ≠ 0) : prgF l s at_ = (0, 0) := by unfold prgF; rw [if_pos h]
theorem jobE_some {l : List Nt} {s : List UInt8} {at_ : Int} {j : Jb} (h0 : askF l at_ = 0) (hk : keyB s = true) (h : jobJ l s at_ = some j) : jobE l s at_ = 0 ∧ prgF l s at_ = ((j.ly.length : Int), j.all) := by
 unfold jobJ at h
 cases hn : nmI (bksF l (cntP at_ l)).1.js s with
 | none => rw [hn] at h; cases h
 | some k =>
  have h1 : jobE l s at_ = 0 := by
   unfold jobE
   rw [if_neg (by simpa using h0), hk, hn]
   rfl
  refine ⟨h1, ?_⟩
  unfold prgF
  rw [if_neg (by simpa using h1), h]
theorem jobE_none {l : List Nt} {s : List UInt8} {at_ : Int} (h0 : askF l at_ = 0) (hk : keyB s = true) (h : jobJ l s at_ = none) : jobE l s at_ = 8 ∧ prgF l s at_ = (0, 0) := by
 have h1 : jobE l s at_ = 8 := by
  unfold jobJ at h
  unfold jobE
  rw [if_neg (by simpa using h0), hk, if_neg (by simp)]
  cases hn : nmI (bksF l (cntP at_ l)).1.js s with
  | none => rfl
  | some k =>
   rw [hn] at h
   obtain ⟨j, hj, _⟩ := nmI_some hn
   simp [hj] at h
 exact ⟨h1, prg_no (by rw [h1]; decide)⟩
def keyE (s : List UInt8) : Int := if keyB s = true then 0 else 5
theorem jobE_no {l : List Nt} {s : List UInt8} {at_ : Int} (h : (if askF l at_ ≠ 0 then askF l at_ else keyE s) ≠ 0) : jobE l s at_ = (if askF l at_ ≠ 0 then askF l at_ else keyE s) ∧ prgF l s at_ = (0, 0) := by
 have h1 : jobE l s at_ = (if askF l at_ ≠ 0 then askF l at_ else keyE s) := by
  unfold jobE keyE at *
  by_cases ha : askF l at_ ≠ 0
  ·rw [if_pos ha, if_pos ha]
  ·rw [if_neg ha] at h ⊢
   rw [if_neg ha]
   cases hk : keyB s with
   | true => rw [hk] at h; exact absurd rfl h
   | false => rfl
 exact ⟨h1, prg_no (by rw [h1]; exact h)⟩
theorem usd_no {l : List Nt} {s : List UInt8} {at_ : Int} (h : (if askF l at_ ≠ 0 then askF l at_ else keyE s) ≠ 0) : usdF l s at_ = (0, if askF l at_ ≠ 0 then askF l at_ else keyE s) := by
 unfold usdF keyE at *
 by_cases ha : askF l at_ ≠ 0
 ·rw [if_pos ha, if_pos ha]
 ·rw [if_neg ha] at h ⊢
  rw [if_neg ha]
  cases hk : keyB s with
  | true => rw [hk] at h; exact absurd rfl h
  | false => rfl
theorem usd_ok {l : List Nt} {s : List UInt8} {at_ : Int} (h : (if askF l at_ ≠ 0 then askF l at_ else keyE s) = 0) : usdF l s at_ = ((mget (bksF l (cntP at_ l)).1.us s).getD 0, 0) := by
 unfold usdF keyE at *
 by_cases ha : askF l at_ ≠ 0
 ·rw [if_pos ha] at h; exact absurd h ha
 ·rw [if_neg ha] at h
  rw [if_neg ha]
  cases hk : keyB s with
  | true => rfl
  | false => rw [hk] at h; cases h
theorem keyfault_v (s : List UInt8) (hl : s.length ≤ 1000000) : ACalls Tryz.prog 20 [.c (T s)] [] fun u H => u = .c (I (keyE s)) ∧ H = [] := by
 obtain ⟨q, hq⟩ : ∃ q, keyB s = q := ⟨_, rfl⟩
 unfold keyE
 refine zj (N := 6) Tryz.func20 rfl rfl (by simp) fun E hE => ?_
 refine WA ?_
 refine WR ?_
 refine zf rfl (zc false (fun _ => zn4 _ (by omega)) rfl .fn rfl (by decide) (by kernel_rfl) rfl (fun _ => C0 rfl) (by simp)) ?_
 rintro _ _ ⟨_, _, _, ⟨rfl, rfl⟩, hF, hH⟩
 rw [hq] at hF
 (refine NST hF hH ?_; clear hF hH; rintro rfl rfl)
 refine WE ?_
 cases q with
 | true =>
  refine za rfl ?_
  refine ZZ ?_
  refine WA ?_
  exact ze [] _ rfl rfl rfl (by decide) (ZNK rfl) (fun _ => .nil) ⟨by rw [hq]; rfl, rfl⟩
 | false =>
  refine zb rfl ?_
  refine WA ?_
  exact ze [] _ rfl rfl rfl (by decide) (ZNK rfl) (fun _ => .nil) ⟨by rw [hq]; rfl, rfl⟩
end Go.Proofs.YtcdeonjdipcgpaaGreatDoor
-- NEWM
namespace Go.Proofs.YtcdeonjdipcgpaaGreatDoor
open Go Go.RowKit
set_option maxRecDepth 100000
theorem mset_fresh {β : Type} {m0 : List (Nat × List UInt8 × β)} {k : List UInt8} {v : β} (h : MapOk m0 m0.length) (hk : k ∉ m0.map (·.2.1)) : mset m0.length k v m0 = m0 ++ [(m0.length, k, v)] ∧ mclk m0.length k m0 = m0.length + 1 ∧ MapOk (m0 ++ [(m0.length, k, v)]) (m0.length + 1) := by
 have hn := mget_none.2 hk
 have h1 : mset m0.length k v m0 = m0 ++ [(m0.length, k, v)] := zU1 hn
 have h2 : mclk m0.length k m0 = m0.length + 1 := by rw [mclk, hn]; rfl
 have h3 := h.set k v
 rw [h1, h2] at h3
 exact ⟨h1, h2, h3⟩
set_option maxHeartbeats 2000000 in
theorem jobsP_v (hSK : SortedKeysOk) (v : Value) (l : List Nt) (at_ : Int) (hl : l.length ≤ 1000000) (hs : ∀ x ∈ l, NtS x) : ACalls Tryz.prog 13 [.c (.r v (noRs l)), .c (I at_)] [] fun u H => ∃ (r : List Pr) (co : Nat), ((askF l at_ ≠ 0 ∧ r = []) ∨ (askF l at_ = 0 ∧ ∃ m0 ck, MapOk m0 ck ∧ (m0.map (·.2)).Perm ((bksF l (cntP at_ l)).1.js.filterMap stPr) ∧ r = srtP m0)) ∧ r.length ≤ 2000 ∧ r.length ≤ co ∧ u = .t [.o 0 0 r.length co, .c (I (askF l at_))] ∧ H = [.arr 56 2 co (prRs r)] := by
 by_cases h0 : askF l at_ = 0
 ·have hjl := bksF_js (at_ := at_) (zH (zf1 h0)).1
  have hnm := bksF_nm (at_ := at_) (zH (zf1 h0)).2
  have hspl := bksF_sp (at_ := at_) (zH (zf1 h0)).1 (zH (zf1 h0)).2
  have hpx : PoolIx 8 := ⟨trivial⟩
  rw [h0]
  refine zj (N := 39) Tryz.func13 rfl rfl (by simp) fun E hE => ?_
  refine WA ?_
  refine WR ?_
  refine zf rfl (zc false (fun _ => zk2 v l at_ hl hs h0) rfl .fn rfl (by decide) (by kernel_rfl) rfl (fun _ => C0 rfl) (by simp)) ?_
  rintro _ _ ⟨_, _, _, ⟨rfl, b, R1, R2, bl, rl, rk, c1, c2, hbf, hB, hbl, hrl, hrm, h1l, h2l, hc1, hc2, rfl⟩, hF, hH⟩
  (refine NST hF hH ?_; clear hF hH; rintro rfl rfl)
  refine WE ?_
  refine WA ?_
  refine za rfl ?_
  refine ZZ ?_
  rw [hbf] at hjl hnm hspl
  simp only at hjl hnm hspl
  have hJ := hB.js
  have hok : MapOk (jlF 0 b.js bl) b.js.length := jlF_ok hJ hbl
  have hjlen : (jlF 0 b.js bl).length = b.js.length := by have := congrArg List.length (zA2 (i := 0) hbl); rw [List.length_map, List.length_range'] at this; exact this
  refine ZR ?_
  refine zf rfl (zm1 rfl rfl (by decide)) ?_
  rintro _ _ ⟨rfl, rfl⟩
  refine WE ?_
  refine ZR ?_
  iterate 4 refine WX1 ?_
  refine zf rfl (zh2 (ke := encSt) (ve := encPt) (l := jlF 0 b.js bl) (ck := b.js.length) rfl rfl (by decide) Tryz.underlying98 rfl rfl) ?_
  rintro _ _ ⟨rfl, rfl⟩
  refine WE ?_
  refine zC (fun m F H => ∃ (seen : List Nat) (m0 : List (Nat × List UInt8 × List UInt8)), unsG (jlF 0 b.js bl) seen = m ∧ m + seen.length ≤ b.js.length ∧ seen.Nodup ∧ (∀ k ∈ seen, k < b.js.length) ∧ m0.map (·.2) = fmJ stPr b.js seen ∧ MapOk m0 m0.length ∧ F = [(8, .mp 9), (25, .p 10 0 0)] ∧ H = [.box [.mp 1, .mp 2, .mp 3, .mp 4, .mp 5, .o 6 0 (R1).length c1, .o 7 0 (R2).length c2], mSP (jlF 0 b.js bl) b.js.length, mSS rl rk, mSS b.sp b.spk, mSI b.lf b.lfk, mSI b.us b.usk, .arr 3 1 c1 (nR (R1)), .arr 32 1 c2 (nR (R2)), .pool (plF jbP b.js bl), mSS m0 m0.length, .itr 1 b.js.length seen b.js.length]) ?_ ?_
  ·refine zn [some 0, some 1, some 2, some 3, some 4, some 5, some 6, some 7, some 8, some 9, some 10] (fun _ => [(8, .mp 9), (25, .p 10 0 0)]) (fun _ => [.box [.mp 1, .mp 2, .mp 3, .mp 4, .mp 5, .o 6 0 (R1).length c1, .o 7 0 (R2).length c2], mSP (jlF 0 b.js bl) b.js.length, mSS rl rk, mSS b.sp b.spk, mSI b.lf b.lfk, mSI b.us b.usk, .arr 3 1 c1 (nR (R1)), .arr 32 1 c2 (nR (R2)), .pool (plF jbP b.js bl), mSS [] 0, .itr 1 b.js.length [] b.js.length]) (by decide) (ZNL hE) ZCF ZCH (fun _ => ?_)
   exact ⟨_, [], [], rfl, by have := unsG_le (jlF 0 b.js bl) []; rw [hjlen] at this; exact this, List.nodup_nil, fun k h => (by cases h), rfl, .nil, rfl, rfl⟩
  rintro m F H ⟨seen, m0, hm, hml, hnd, hsl, hout, hm0, rfl, rfl⟩
  have hol : m0.length ≤ 2000 := by have h1 := congrArg List.length hout; rw [List.length_map] at h1; have := fmJ_len stPr b.js seen; omega
  refine ZR ?_
  refine zf rfl (zL2 (ke := encSt) (ve := encPt) (l := jlF 0 b.js bl) rfl rfl (by decide) rfl rfl rfl hok.hb (Nat.le_refl _)) ?_
  rintro _ _ (⟨⟨eb, ek, es⟩, he, hne, rfl, rfl⟩ | ⟨hall, rfl, rfl⟩)
  all_goals (refine WE ?_)
  ·refine zb rfl ?_
   obtain ⟨k, j, b0, hj, hb, heq⟩ := zd4 he
   injection heq with q1 q2
   injection q2 with q2 q3
   subst q1; subst q2; subst q3
   have hlt : unsG (jlF 0 b.js bl) (seen ++ [0 + k]) < unsG (jlF 0 b.js bl) seen := zH2 he hne
   have hin : InPool k b0 (plF jbP b.js bl) [T (stW j.st), I j.ly.length, I j.all, I j.beg, I (j.ly.getLast?.getD 0), I j.en] := ⟨zx2 hj hb⟩
   have hkm : j.nm ∉ m0.map (·.2.1) := fun h => by
    obtain ⟨e, hem, hen⟩ := List.mem_map.1 h
    have h2 : e.2 ∈ m0.map (·.2) := List.mem_map_of_mem (f := fun e : Nat × List UInt8 × List UInt8 => e.2) hem
    rw [hout] at h2
    obtain ⟨q, hq, hq2⟩ := List.mem_filterMap.1 h2
    cases hjq : b.js[q]? with
    | none => rw [hjq] at hq2; cases hq2
    | some j2 =>
     rw [hjq] at hq2
     simp only [Option.bind_some, stPr, Option.some.injEq] at hq2
     have hn2 : j2.nm = j.nm := by rw [← hen, ← hq2]
     have := hJ.nm q k j2 j hjq hj hn2
     subst this
     exact hne (by simpa using hq)
   obtain ⟨g1, g2, g3⟩ := mset_fresh (v := stW j.st) hm0 hkm
   have hnd2 : (seen ++ [0 + k]).Nodup := List.nodup_append.2 ⟨hnd, by simp, fun a ha b hb h => by simp at hb; subst hb; subst h; exact hne (by simpa using ha)⟩
   have hsl2 : ∀ q ∈ seen ++ [0 + k], q < b.js.length := fun q hq => by
    rcases List.mem_append.1 hq with hq | hq
    ·exact hsl q hq
    ·rw [List.mem_singleton, Nat.zero_add] at hq; subst hq; exact (List.getElem?_eq_some_iff.1 hj).1
   have hout2 : (m0 ++ [(m0.length, j.nm, stW j.st)]).map (·.2) = fmJ stPr b.js (seen ++ [0 + k]) := by rw [fmJ_some (f := stPr) hj rfl, List.map_append, hout]; rfl
   refine ZR ?_
   refine ZA (zg2 (ke := encSt) (ve := encPt) (e := (0 + k, j.nm, ptrV b0)) rfl rfl rfl rfl he hok.nb) ?_
   refine WE ?_
   refine ZR ?_
   iterate 6 refine WX1 ?_
   refine zf rfl (ef_muSS (k := j.nm) (l := m0) (z := (stW j.st)) rfl rfl rfl rfl rfl rfl) ?_
   rintro _ _ ⟨rfl, rfl⟩
   refine WE ?_
   rw [g1, g2]
   refine zn [some 0, some 1, some 2, some 3, some 4, some 5, some 6, some 7, some 8, some 9, some 10] (fun _ => [(8, .mp 9), (25, .p 10 0 0)]) (fun _ => [.box [.mp 1, .mp 2, .mp 3, .mp 4, .mp 5, .o 6 0 (R1).length c1, .o 7 0 (R2).length c2], mSP (jlF 0 b.js bl) b.js.length, mSS rl rk, mSS b.sp b.spk, mSI b.lf b.lfk, mSI b.us b.usk, .arr 3 1 c1 (nR (R1)), .arr 32 1 c2 (nR (R2)), .pool (plF jbP b.js bl), mSS (m0 ++ [(m0.length, j.nm, stW j.st)]) (m0 ++ [(m0.length, j.nm, stW j.st)]).length, .itr 1 b.js.length (seen ++ [0 + k]) b.js.length]) (by decide) (ZNL hE) ZCF (by rw [List.length_append, List.length_singleton]; exact ZCH) (fun _ => ?_)
   exact ⟨_, by rw [← hm]; exact hlt, seen ++ [0 + k], _, rfl, by rw [List.length_append, List.length_singleton]; omega, hnd2, hsl2, hout2, by rw [List.length_append, List.length_singleton]; exact g3, rfl, rfl⟩
  ·refine za rfl ?_
   have hp : (m0.map (·.2)).Perm (b.js.filterMap stPr) := by
    rw [hout]
    refine fmJ_all hnd hsl fun k hk => ?_
    obtain ⟨b0, hb0⟩ : ∃ b0, bl[k]? = some b0 := ⟨_, List.getElem?_eq_getElem (by rw [hbl]; exact hk)⟩
    simpa using hall _ (jlF_in (i := 0) (List.getElem?_eq_getElem hk) hb0)
   have hkl : ∀ e ∈ m0, e.2.1.length ≤ 1000000 := fun e he => by
    have h2 : e.2 ∈ m0.map (·.2) := List.mem_map_of_mem (f := (·.2)) he
    obtain ⟨j, hj, hj2⟩ := List.mem_filterMap.1 (hp.subset h2)
    simp only [stPr, Option.some.injEq] at hj2
    have := (hnm.js j hj).2
    rw [← hj2]
    simp only
    omega
   have hsl : (srtP m0).length = m0.length := by simp [srtP, zi3]
   refine ZZ ?_
   refine WR ?_
   refine zf rfl (zW [9] (fun _ => [mSS m0 m0.length]) false (fun _ => pairs_v hSK m0 m0.length hm0 (by omega) hkl) rfl .fn rfl (by decide) (by kernel_rfl) rfl ZCH (by decide) ZCH (by simp)) ?_
   rintro F1 H1 ⟨_, _, _, _, ⟨co, cs, hco, rfl, rfl⟩, hF, hH⟩
   rw [zF] at hF; (refine NSU hF hH ?_; clear hF hH; rintro rfl rfl)
   refine WE ?_
   exact zc1 (us := [.o 13 0 m0.length co, .c (I 0)]) [some 13] (fun _ => .t [.o 0 0 m0.length co, .c (I 0)]) (fun _ => [.arr 56 2 co (prRs (srtP m0))]) (.tmp rfl (.tmp rfl .nil)) (by decide) (ZNK rfl) (fun _ => .tL (.cons (.o rfl rfl) (.cons (.c rfl) .nil))) ZCH (fun _ => ⟨srtP m0, co, .inr ⟨rfl, m0, m0.length, hm0, by rw [hbf]; exact hp, rfl⟩, by omega, by omega, by rw [hsl], rfl⟩)
 ·refine zj (N := 39) Tryz.func13 rfl rfl (by simp) fun E hE => ?_
  refine WA ?_
  refine WR ?_
  refine zf rfl (zc false (fun _ => zl2 v l at_ hl hs h0) rfl .fn rfl (by decide) (by kernel_rfl) rfl (fun _ => C0 rfl) (by simp)) ?_
  rintro _ _ ⟨_, _, _, ⟨rfl, rfl⟩, hF, hH⟩
  (refine NST hF hH ?_; clear hF hH; rintro rfl rfl)
  refine WE ?_
  generalize askF l at_ = e at h0 ⊢
  refine WA ?_
  refine zb rfl ?_
  refine WA ?_
  exact zc1 (us := [.c (.r (.slice none 0 0) []), .c (I e)]) [none] (fun _ => .t [.o 0 0 0 0, .c (I e)]) (fun _ => [.arr 56 2 0 []]) (.tmp rfl (.tmp rfl .nil)) (by decide) (ZNK rfl) (fun _ => .tL (.cons (.nil rfl) (.cons (.c rfl) .nil))) ZCH (fun _ => ⟨[], 0, .inl ⟨h0, rfl⟩, Nat.zero_le _, Nat.le_refl _, rfl, rfl⟩)
theorem zp4 {α β : Type} {f : α → β} : ∀ {l : List α} {a b : α}, (l.map f).Nodup → a ∈ l → b ∈ l → f a = f b → a = b
 | [], a, b, _, h, _, _ => by cases h
 | x :: l, a, b, hn, ha, hb, he => by
  rw [List.map_cons, List.nodup_cons] at hn
  rcases List.mem_cons.1 ha with h1 | h1
  ·rcases List.mem_cons.1 hb with h2 | h2
   ·rw [h1, h2]
   ·exact absurd (List.mem_map_of_mem (f := f) h2) (by rw [← he, h1]; exact hn.1)
  ·rcases List.mem_cons.1 hb with h2 | h2
   ·exact absurd (List.mem_map_of_mem (f := f) h1) (by rw [he, h2]; exact hn.1)
   ·exact zp4 hn.2 h1 h2 he
set_option maxHeartbeats 2000000 in
theorem filamentP_v (hSK : SortedKeysOk) (v : Value) (l : List Nt) (at_ : Int) (hl : l.length ≤ 1000000) (hs : ∀ x ∈ l, NtS x) : ACallsW TabX false Tryz.prog 15 [.c (.r v (noRs l)), .c (I at_)] [] fun u H => ∃ (r : List Pr) (co : Nat), ((askF l at_ ≠ 0 ∧ r = []) ∨ (askF l at_ = 0 ∧ ∃ m0 ck, MapOk m0 ck ∧ (m0.map (·.2)).Perm ((bksF l (cntP at_ l)).1.sp.map (flPr (bksF l (cntP at_ l)).1.lf)) ∧ r = srtP m0)) ∧ r.length ≤ 2000 ∧ r.length ≤ co ∧ u = .t [.o 0 0 r.length co, .c (I (askF l at_))] ∧ H = [.arr 56 2 co (prRs r)] := by
 by_cases h0 : askF l at_ = 0
 ·have hjl := bksF_js (at_ := at_) (zH (zf1 h0)).1
  have hnm := bksF_nm (at_ := at_) (zH (zf1 h0)).2
  have hspl := bksF_sp (at_ := at_) (zH (zf1 h0)).1 (zH (zf1 h0)).2
  rw [h0]
  refine zp3 tabX_stp false (N := 45) Tryz.func15 rfl rfl (by simp) fun E hE hP hX => ?_
  refine WA ?_
  refine WR ?_
  refine zf rfl (zc false (fun _ => zk2 v l at_ hl hs h0) rfl .fn rfl (by decide) (by kernel_rfl) rfl (fun _ => C0 rfl) (by simp)) ?_
  rintro _ _ ⟨_, _, _, ⟨rfl, b, R1, R2, bl, rl, rk, c1, c2, hbf, hB, hbl, hrl, hrm, h1l, h2l, hc1, hc2, rfl⟩, hF, hH⟩
  (refine NST hF hH ?_; clear hF hH; rintro rfl rfl)
  refine WE ?_
  refine WA ?_
  refine za rfl ?_
  refine ZZ ?_
  rw [hbf] at hjl hnm hspl
  simp only at hjl hnm hspl
  have hok := hB.sp
  refine ZR ?_
  refine zf rfl (zm1 rfl rfl (by decide)) ?_
  rintro _ _ ⟨rfl, rfl⟩
  refine WE ?_
  refine ZR ?_
  iterate 4 refine WX1 ?_
  refine zf rfl (zh2 (ke := encSt) (ve := encSt) (l := b.sp) (ck := b.spk) rfl rfl (by decide) Tryz.underlying99 rfl rfl) ?_
  rintro _ _ ⟨rfl, rfl⟩
  refine WE ?_
  refine zC (fun m F H => ∃ (TS m0 : List (Nat × List UInt8 × List UInt8)), unsG b.sp (TS.map (·.1)) = m ∧ m + TS.length ≤ b.sp.length ∧ (TS.map (·.1)).Nodup ∧ (∀ e ∈ TS, e ∈ b.sp) ∧ m0.map (·.2) = TS.map (flPr b.lf) ∧ MapOk m0 m0.length ∧ F = [(6, .p 0 0 0), (8, .mp 9), (25, .p 10 0 0)] ∧ H = [.box [.mp 1, .mp 2, .mp 3, .mp 4, .mp 5, .o 6 0 (R1).length c1, .o 7 0 (R2).length c2], mSP (jlF 0 b.js bl) b.js.length, mSS rl rk, mSS b.sp b.spk, mSI b.lf b.lfk, mSI b.us b.usk, .arr 3 1 c1 (nR (R1)), .arr 32 1 c2 (nR (R2)), .pool (plF jbP b.js bl), mSS m0 m0.length, .itr 3 b.spk (TS.map (·.1)) b.spk]) ?_ ?_
  ·refine zn [some 0, some 1, some 2, some 3, some 4, some 5, some 6, some 7, some 8, some 9, some 10] (fun _ => [(6, .p 0 0 0), (8, .mp 9), (25, .p 10 0 0)]) (fun _ => [.box [.mp 1, .mp 2, .mp 3, .mp 4, .mp 5, .o 6 0 (R1).length c1, .o 7 0 (R2).length c2], mSP (jlF 0 b.js bl) b.js.length, mSS rl rk, mSS b.sp b.spk, mSI b.lf b.lfk, mSI b.us b.usk, .arr 3 1 c1 (nR (R1)), .arr 32 1 c2 (nR (R2)), .pool (plF jbP b.js bl), mSS [] 0, .itr 3 b.spk [] b.spk]) (by decide) (ZNL hE) ZCF ZCH (fun _ => ?_)
   exact ⟨_, [], [], rfl, unsG_le b.sp [], List.nodup_nil, fun e h => (by cases h), rfl, .nil, rfl, rfl⟩
  rintro m F H ⟨TS, m0, hm, hml, hnd, hsl, hout, hm0, rfl, rfl⟩
  have hol : m0.length ≤ 2000 := by have h1 := congrArg List.length hout; rw [List.length_map, List.length_map] at h1; omega
  refine ZR ?_
  refine zf rfl (zL2 (ke := encSt) (ve := encSt) (l := b.sp) rfl rfl (by decide) rfl rfl rfl hok.hb (Nat.le_refl _)) ?_
  rintro _ _ (⟨⟨eb, ek, es⟩, he, hne, rfl, rfl⟩ | ⟨hall, rfl, rfl⟩)
  all_goals (refine WE ?_)
  ·refine zb rfl ?_
   have hlt : unsG b.sp (TS.map (·.1) ++ [eb]) < unsG b.sp (TS.map (·.1)) := zH2 he hne
   have hel := hspl.2 _ he
   simp only at hel
   obtain ⟨lv, hlv⟩ : ∃ q, (mget b.lf es).getD 0 = q := ⟨_, rfl⟩
   have hlb := hB.l es
   rw [hlv] at hlb
   have hil := Lib.itoa_length_le lv (by omega) (by omega)
   have hkm : ek ∉ m0.map (·.2.1) := fun h => by
    obtain ⟨e, hem, hen⟩ := List.mem_map.1 h
    have h2 : e.2 ∈ m0.map (·.2) := List.mem_map_of_mem (f := fun e : Nat × List UInt8 × List UInt8 => e.2) hem
    rw [hout] at h2
    obtain ⟨t, ht, ht2⟩ := List.mem_map.1 h2
    have h3 : t.2.1 = ek := by rw [← hen, ← ht2]; rfl
    have h4 : t = (eb, ek, es) := zp4 (f := fun e : Nat × List UInt8 × List UInt8 => e.2.1) hok.nk (hsl t ht) he h3
    exact hne (by have := List.mem_map_of_mem (f := fun e : Nat × List UInt8 × List UInt8 => e.1) ht; rw [h4] at this; exact this)
   obtain ⟨g1, g2, g3⟩ := mset_fresh (v := es ++ [32] ++ Lib.itoa lv) hm0 hkm
   have hnd2 : ((TS ++ [(eb, ek, es)]).map (·.1)).Nodup := by
    rw [List.map_append]
    exact List.nodup_append.2 ⟨hnd, by simp, fun a ha b hb h => by simp at hb; subst hb; subst h; exact hne ha⟩
   have hsl2 : ∀ e ∈ TS ++ [(eb, ek, es)], e ∈ b.sp := fun e h => by
    rcases List.mem_append.1 h with h | h
    ·exact hsl e h
    ·rw [List.mem_singleton] at h; subst h; exact he
   have hout2 : List.map (fun e : Nat × List UInt8 × List UInt8 => e.2) (m0 ++ [(m0.length, ek, es ++ [32] ++ Lib.itoa lv)]) = (TS ++ [(eb, ek, es)]).map (flPr b.lf) := by rw [List.map_append, List.map_append, hout]; simp [flPr, hlv]
   refine ZR ?_
   refine ZA (zg2 (ke := encSt) (ve := encSt) (e := (eb, ek, es)) rfl rfl rfl rfl he hok.nb) ?_
   refine WE ?_
   refine ZR ?_
   iterate 3 refine WX1 ?_
   refine ZA (rd_adds (a := es) (b := [32]) rfl Tryz.underlying9 rfl rfl (by simp; omega)) ?_
   iterate 5 refine WX1 ?_
   refine ZA (zX (k := es) (l := b.lf) hlv rfl rfl rfl rfl) ?_
   refine zf rfl (zQ3 TabX (hX _ _) false (fun _ => itoa_v lv (by omega) (by omega)) rfl .fn rfl (by decide) (by kernel_rfl) rfl (fun _ => C0 rfl) (by simp)) ?_
   rintro _ _ ⟨_, _, _, ⟨rfl, rfl⟩, hF, hH⟩
   (refine NST hF hH ?_; clear hF hH; rintro rfl rfl)
   refine ZA (rd_adds (a := es ++ [32]) (b := Lib.itoa lv) rfl Tryz.underlying9 rfl rfl (by simp; omega)) ?_
   refine zf rfl (ef_muSS (k := ek) (l := m0) (z := (es ++ [32] ++ Lib.itoa lv)) rfl rfl rfl rfl rfl rfl) ?_
   rintro _ _ ⟨rfl, rfl⟩
   refine WE ?_
   rw [g1, g2]
   refine zn [some 0, some 1, some 2, some 3, some 4, some 5, some 6, some 7, some 8, some 9, some 10] (fun _ => [(6, .p 0 0 0), (8, .mp 9), (25, .p 10 0 0)]) (fun _ => [.box [.mp 1, .mp 2, .mp 3, .mp 4, .mp 5, .o 6 0 (R1).length c1, .o 7 0 (R2).length c2], mSP (jlF 0 b.js bl) b.js.length, mSS rl rk, mSS b.sp b.spk, mSI b.lf b.lfk, mSI b.us b.usk, .arr 3 1 c1 (nR (R1)), .arr 32 1 c2 (nR (R2)), .pool (plF jbP b.js bl), mSS (m0 ++ [(m0.length, ek, es ++ [32] ++ Lib.itoa lv)]) (m0 ++ [(m0.length, ek, es ++ [32] ++ Lib.itoa lv)]).length, .itr 3 b.spk ((TS ++ [(eb, ek, es)]).map (·.1)) b.spk]) (by decide) (ZNL hE) ZCF (by simp only [List.map_append, List.map_cons, List.map_nil, List.length_append, List.length_singleton]; exact ZCH) (fun _ => ?_)
   exact ⟨_, by rw [← hm]; exact hlt, TS ++ [(eb, ek, es)], _, by rw [List.map_append]; rfl, by rw [List.length_append, List.length_singleton]; omega, hnd2, hsl2, hout2, by rw [List.length_append, List.length_singleton]; exact g3, rfl, rfl⟩
  ·refine za rfl ?_
   have hp : (m0.map (·.2)).Perm (b.sp.map (flPr b.lf)) := by
    rw [hout]
    exact (zl4 hok.nb rfl hnd hsl hall).map _
   have hkl : ∀ e ∈ m0, e.2.1.length ≤ 1000000 := fun e he => by
    have h2 : e.2 ∈ m0.map (·.2) := List.mem_map_of_mem (f := (·.2)) he
    obtain ⟨t, ht, ht2⟩ := List.mem_map.1 (hp.subset h2)
    have h3 := hnm.sp t ht
    have h4 : e.2.1 = t.2.1 := by rw [← ht2]; rfl
    rw [h4]
    omega
   have hsl : (srtP m0).length = m0.length := by simp [srtP, zi3]
   refine ZZ ?_
   refine WR ?_
   refine zf rfl (zW [9] (fun _ => [mSS m0 m0.length]) false (fun _ => pairs_v hSK m0 m0.length hm0 (by omega) hkl) rfl .fn rfl (by decide) (by kernel_rfl) rfl ZCH (by decide) ZCH (by simp)) ?_
   rintro F1 H1 ⟨_, _, _, _, ⟨co, cs, hco, rfl, rfl⟩, hF, hH⟩
   rw [zF] at hF; (refine NSU hF hH ?_; clear hF hH; rintro rfl rfl)
   refine WE ?_
   exact zc1 (us := [.o 13 0 m0.length co, .c (I 0)]) [some 13] (fun _ => .t [.o 0 0 m0.length co, .c (I 0)]) (fun _ => [.arr 56 2 co (prRs (srtP m0))]) (.tmp rfl (.tmp rfl .nil)) (by decide) (ZNK rfl) (fun _ => .tL (.cons (.o rfl rfl) (.cons (.c rfl) .nil))) ZCH (fun _ => ⟨srtP m0, co, .inr ⟨rfl, m0, m0.length, hm0, by rw [hbf]; exact hp, rfl⟩, by omega, by omega, by rw [hsl], rfl⟩)
 ·refine zp3 tabX_stp false (N := 45) Tryz.func15 rfl rfl (by simp) fun E hE hP hX => ?_
  refine WA ?_
  refine WR ?_
  refine zf rfl (zc false (fun _ => zl2 v l at_ hl hs h0) rfl .fn rfl (by decide) (by kernel_rfl) rfl (fun _ => C0 rfl) (by simp)) ?_
  rintro _ _ ⟨_, _, _, ⟨rfl, rfl⟩, hF, hH⟩
  (refine NST hF hH ?_; clear hF hH; rintro rfl rfl)
  refine WE ?_
  generalize askF l at_ = e at h0 ⊢
  refine WA ?_
  refine zb rfl ?_
  refine WA ?_
  exact zc1 (us := [.c (.r (.slice none 0 0) []), .c (I e)]) [none] (fun _ => .t [.o 0 0 0 0, .c (I e)]) (fun _ => [.arr 56 2 0 []]) (.tmp rfl (.tmp rfl .nil)) (by decide) (ZNK rfl) (fun _ => .tL (.cons (.nil rfl) (.cons (.c rfl) .nil))) ZCH (fun _ => ⟨[], 0, .inl ⟨h0, rfl⟩, Nat.zero_le _, Nat.le_refl _, rfl, rfl⟩)
end Go.Proofs.YtcdeonjdipcgpaaGreatDoor
-- NEWM
namespace Go.Proofs.YtcdeonjdipcgpaaGreatDoor
open Go Go.RowKit
set_option maxRecDepth 100000
section
variable {N : Nat} {E : Env} {o : Oper} {F : Fm} {H : List OB} {x y : Operand} {yt : TypeId}
theorem rd_neqP0 {a0 a1 b0 b1 : ByteArray} (ho : o.op = .binOp .neq 56 x y yt) (hx : ev F x = some (.a [.c (.s (.string a0)), .c (.s (.string a1))])) (hy : ev F y = some (.a [.c (.s (.string b0)), .c (.s (.string b1))])) : Rd Tryz.prog N E o F H (.c (.s (.bool (decide (¬ (a0.toList = b0.toList ∧ a1.toList = b1.toList)))))) :=
 zc2 (dx := .agg #[.string a0, .string a1]) (dy := .agg #[.string b0, .string b1]) ho hx hy (fun _ _ => by simp [AV.den, CV.den, AV.denL]) (fun _ _ => by simp [AV.den, CV.den, AV.denL]) fun w => by
  go_simp
  repeat' split
  all_goals simp_all
theorem rd_neqP {a b : Pr} {q : Bool} (h : decide (¬ a = b) = q) (ho : o.op = .binOp .neq 56 x y yt) (hx : ev F x = some (prA a)) (hy : ev F y = some (prA b)) : Rd Tryz.prog N E o F H (.c (.s (.bool q))) := by
 have := rd_neqP0 (N := N) (E := E) (H := H) ho hx hy
 rwa [show decide (¬ ((bst a.1).toList = (bst b.1).toList ∧ (bst a.2).toList = (bst b.2).toList)) = q by
  rw [← h]
  congr 1
  simp only [zH1]
  rw [Prod.ext_iff]] at this
end
theorem equalP_v (v w : Value) (a b : List Pr) (ha : a.length ≤ 1000000) (hb : b.length ≤ 1000000) : ACalls Tryz.prog 29 [.c (.r v (prRs a)), .c (.r w (prRs b))] [] fun u H => u = .c (B (decide (a = b))) ∧ H = [] := by
 have e1 : (prRs a).length = a.length := by simp
 have e2 : (prRs b).length = b.length := by simp
 refine zj (N := 26) Tryz.func29 rfl rfl (by simp) fun E hE => ?_
 refine WA ?_
 refine WA ?_
 refine zu rfl (fun h0 => ?_) (fun h0 => ?_)
 ·refine WA ?_
  exact ze [] _ rfl rfl rfl (by decide) (ZNK rfl) (fun _ => .nil) ⟨by rw [decide_eq_false (fun h => h0 (by rw [h]))], rfl⟩
 have hlen : a.length = b.length := by omega
 refine ZZ ?_
 refine WA ?_
 refine zC (fun m F H => ∃ (k : Nat), m + k = a.length ∧ a.take k = b.take k ∧ F = [(0, .c (.r v (prRs a))), (1, .c (.r w (prRs b))), (12, .c (I (prRs a).length)), (13, .c (I k))] ∧ H = []) ?_ ?_
 ·refine zn [] (fun _ => [(0, .c (.r v (prRs a))), (1, .c (.r w (prRs b))), (12, .c (I (prRs a).length)), (13, .c (I (0 : Nat)))]) (fun _ => []) (by decide) (ZNL hE) ZCF (fun _ => .nil) (fun _ => ?_)
  exact ⟨a.length, 0, by omega, rfl, rfl, rfl⟩
 rintro m F H ⟨k, hk, hf, rfl, rfl⟩
 refine WA ?_
 refine zu rfl (fun hlt => ?_) (fun hge => ?_)
 ·obtain ⟨x, hx⟩ : ∃ n, a[k]? = some n := ⟨_, List.getElem?_eq_getElem (by omega)⟩
  obtain ⟨y, hy⟩ : ∃ n, b[k]? = some n := ⟨_, List.getElem?_eq_getElem (by omega)⟩
  have hrx0 : (prRs a)[k]? = some (prR x) := by rw [List.getElem?_map, hx]; rfl
  have hry0 : (prRs b)[k]? = some (prR y) := by rw [List.getElem?_map, hy]; rfl
  obtain ⟨q, hq⟩ : ∃ q, decide (¬ x = y) = q := ⟨_, rfl⟩
  have hta : a.take (k + 1) = a.take k ++ [x] := by rw [List.take_add_one, hx]; rfl
  have htb : b.take (k + 1) = b.take k ++ [y] := by rw [List.take_add_one, hy]; rfl
  obtain ⟨x0, x1⟩ := x
  obtain ⟨y0, y1⟩ := y
  have hrx : (prRs a)[k]? = some [T x0, T x1] := hrx0
  have hry : (prRs b)[k]? = some [T y0, T y1] := hry0
  refine WA ?_
  refine ZZ ?_
  refine zg [(0, none), (1, none), (2, none), (3, none), (4, none), (5, none), (6, none), (7, none), (8, none)] zm (by kernel_rfl) ?_
  iterate 8 refine WX2 ?_
  refine ZT rfl (rd_neqP (a := (x0, x1)) (b := (y0, y1)) hq rfl rfl rfl) ?_
  refine WQ ?_
  cases q with
  | true =>
   refine zb rfl ?_
   refine ZZ ?_
   refine WA ?_
   refine ze [] _ rfl rfl rfl (by decide) (ZNK rfl) (fun _ => .nil) ⟨?_, rfl⟩
   rw [decide_eq_false]
   intro h
   rw [h, hy] at hx
   exact of_decide_eq_true hq (Option.some.inj hx).symm
  | false =>
   refine za rfl ?_
   refine ZZ ?_
   refine WA ?_
   refine zn [] (fun _ => [(0, .c (.r v (prRs a))), (1, .c (.r w (prRs b))), (12, .c (I (prRs a).length)), (13, .c (I (k + 1 : Nat)))]) (fun _ => []) (by decide) (ZNL hE) ZCF (fun _ => .nil) (fun _ => ?_)
   exact ⟨m - 1, by omega, k + 1, by omega, by rw [hta, htb, hf, Decidable.not_not.1 (of_decide_eq_false hq)], rfl, rfl⟩
 rw [List.take_of_length_le (by omega), List.take_of_length_le (by omega)] at hf
 refine ZZ ?_
 refine WA ?_
 exact ze [] _ rfl rfl rfl (by decide) (ZNK rfl) (fun _ => .nil) ⟨by rw [decide_eq_true hf], rfl⟩
theorem one_eqv {a b : Int} : a = b ↔ a = b := Iff.rfl
theorem eqE_a (l l' : List Int) (v v' : Value) (hl : l.length ≤ 1000000000) (hl' : l'.length ≤ 1000000000) : ACalls Tryz.prog 28 [.c (.r v (l.map (fun z => [I z]))), .c (.r v' (l'.map (fun z => [I z])))] [] fun u H => ∃ b : Bool, u = .c (B b) ∧ H = [] ∧ (b = true ↔ l = l') := by
 have e1 : (l.map (fun z => [I z])).length = l.length := by simp
 have e2 : (l'.map (fun z => [I z])).length = l'.length := by simp
 refine zj (N := 26) Tryz.func28 rfl rfl (by simp) fun E hE => ?_
 refine WA ?_
 refine WA ?_
 refine zu rfl (fun hne => ?_) (fun heq => ?_)
 ·refine WA ?_
  exact ze [] _ rfl rfl rfl (by decide) (ZNK rfl) (fun _ => .nil) ⟨_, rfl, rfl, by simp; intro e; rw [e] at hne; omega⟩
 refine ZZ ?_
 refine WA ?_
 refine zC (fun n F H => ∃ k : Nat, n + k = l.length ∧ l.take k = l'.take k ∧ F = [(0, .c (.r v (l.map (fun z => [I z])))), (1, .c (.r v' (l'.map (fun z => [I z])))), (12, .c (I (l.map (fun z => [I z])).length)), (13, .c (I k))] ∧ H = []) ?_ ?_
 ·refine zn [] (fun _ => [(0, .c (.r v (l.map (fun z => [I z])))), (1, .c (.r v' (l'.map (fun z => [I z])))), (12, .c (I (l.map (fun z => [I z])).length)), (13, .c (I (0 : Nat)))]) (fun _ => _) (by decide) (ZNL hE) ZCF (fun _ => .nil) (fun _ => ?_)
  exact ⟨l.length, 0, by omega, rfl, rfl, rfl⟩
 rintro n F H ⟨k, hk, ht, rfl, rfl⟩
 refine WA ?_
 refine zu rfl (fun hlt => ?_) (fun hge => ?_)
 ·obtain ⟨s, hs⟩ : ∃ s, l[k]? = some s := ⟨_, List.getElem?_eq_getElem (by omega)⟩
  obtain ⟨s', hs'⟩ : ∃ s', l'[k]? = some s' := ⟨_, List.getElem?_eq_getElem (by omega)⟩
  have hrow : (l.map (fun z => [I z]))[k]? = some ((fun z => [I z]) s) := by rw [List.getElem?_map, hs]; rfl
  have hrow' : (l'.map (fun z => [I z]))[k]? = some ((fun z => [I z]) s') := by rw [List.getElem?_map, hs']; rfl
  refine WA ?_
  refine ZZ ?_
  refine zg [(0, none), (1, none), (2, none), (3, none), (4, none), (5, none), (6, none), (7, none), (8, none)] zm (by kernel_rfl) ?_
  refine WQ ?_
  refine zu rfl (fun hn => ?_) (fun he => ?_)
  ·refine WA ?_
   refine ze [] _ rfl rfl rfl (by decide) (ZNK rfl) (fun _ => .nil) ⟨_, rfl, rfl, ?_⟩
   simp only [Bool.false_eq_true, false_iff]
   intro e
   subst e
   rw [hs] at hs'
   exact hn (one_eqv.2 (Option.some.inj hs'))
  ·refine ZZ ?_
   refine WA ?_
   refine zn [] (fun _ => [(0, .c (.r v (l.map (fun z => [I z])))), (1, .c (.r v' (l'.map (fun z => [I z])))), (12, .c (I (l.map (fun z => [I z])).length)), (13, .c (I (k + 1 : Nat)))]) (fun _ => _) (by decide) (ZNL hE) ZCF (fun _ => .nil) (fun _ => ?_)
   exact ⟨n - 1, by omega, k + 1, by omega, by rw [zh3 hs, zh3 hs', ht, one_eqv.1 (Decidable.not_not.1 he)], rfl, rfl⟩
 refine WA ?_
 refine ze [] _ rfl rfl rfl (by decide) (ZNK rfl) (fun _ => .nil) ⟨_, rfl, rfl, ?_⟩
 rw [List.take_of_length_le (by omega), List.take_of_length_le (by omega)] at ht
 simp [ht]
theorem eqJ_a (l l' : List Int) (v v' : Value) (hl : l.length ≤ 1000000000) (hl' : l'.length ≤ 1000000000) : ACalls Tryz.prog 27 [.c (.r v (l.map (fun z => [I z]))), .c (.r v' (l'.map (fun z => [I z])))] [] fun u H => ∃ b : Bool, u = .c (B b) ∧ H = [] ∧ (b = true ↔ l = l') := by
 have e1 : (l.map (fun z => [I z])).length = l.length := by simp
 have e2 : (l'.map (fun z => [I z])).length = l'.length := by simp
 refine zj (N := 26) Tryz.func27 rfl rfl (by simp) fun E hE => ?_
 refine WA ?_
 refine WA ?_
 refine zu rfl (fun hne => ?_) (fun heq => ?_)
 ·refine WA ?_
  exact ze [] _ rfl rfl rfl (by decide) (ZNK rfl) (fun _ => .nil) ⟨_, rfl, rfl, by simp; intro e; rw [e] at hne; omega⟩
 refine ZZ ?_
 refine WA ?_
 refine zC (fun n F H => ∃ k : Nat, n + k = l.length ∧ l.take k = l'.take k ∧ F = [(0, .c (.r v (l.map (fun z => [I z])))), (1, .c (.r v' (l'.map (fun z => [I z])))), (12, .c (I (l.map (fun z => [I z])).length)), (13, .c (I k))] ∧ H = []) ?_ ?_
 ·refine zn [] (fun _ => [(0, .c (.r v (l.map (fun z => [I z])))), (1, .c (.r v' (l'.map (fun z => [I z])))), (12, .c (I (l.map (fun z => [I z])).length)), (13, .c (I (0 : Nat)))]) (fun _ => _) (by decide) (ZNL hE) ZCF (fun _ => .nil) (fun _ => ?_)
  exact ⟨l.length, 0, by omega, rfl, rfl, rfl⟩
 rintro n F H ⟨k, hk, ht, rfl, rfl⟩
 refine WA ?_
 refine zu rfl (fun hlt => ?_) (fun hge => ?_)
 ·obtain ⟨s, hs⟩ : ∃ s, l[k]? = some s := ⟨_, List.getElem?_eq_getElem (by omega)⟩
  obtain ⟨s', hs'⟩ : ∃ s', l'[k]? = some s' := ⟨_, List.getElem?_eq_getElem (by omega)⟩
  have hrow : (l.map (fun z => [I z]))[k]? = some ((fun z => [I z]) s) := by rw [List.getElem?_map, hs]; rfl
  have hrow' : (l'.map (fun z => [I z]))[k]? = some ((fun z => [I z]) s') := by rw [List.getElem?_map, hs']; rfl
  refine WA ?_
  refine ZZ ?_
  refine zg [(0, none), (1, none), (2, none), (3, none), (4, none), (5, none), (6, none), (7, none), (8, none)] zm (by kernel_rfl) ?_
  refine WQ ?_
  refine zu rfl (fun hn => ?_) (fun he => ?_)
  ·refine WA ?_
   refine ze [] _ rfl rfl rfl (by decide) (ZNK rfl) (fun _ => .nil) ⟨_, rfl, rfl, ?_⟩
   simp only [Bool.false_eq_true, false_iff]
   intro e
   subst e
   rw [hs] at hs'
   exact hn (one_eqv.2 (Option.some.inj hs'))
  ·refine ZZ ?_
   refine WA ?_
   refine zn [] (fun _ => [(0, .c (.r v (l.map (fun z => [I z])))), (1, .c (.r v' (l'.map (fun z => [I z])))), (12, .c (I (l.map (fun z => [I z])).length)), (13, .c (I (k + 1 : Nat)))]) (fun _ => _) (by decide) (ZNL hE) ZCF (fun _ => .nil) (fun _ => ?_)
   exact ⟨n - 1, by omega, k + 1, by omega, by rw [zh3 hs, zh3 hs', ht, one_eqv.1 (Decidable.not_not.1 he)], rfl, rfl⟩
 refine WA ?_
 refine ze [] _ rfl rfl rfl (by decide) (ZNK rfl) (fun _ => .nil) ⟨_, rfl, rfl, ?_⟩
 rw [List.take_of_length_le (by omega), List.take_of_length_le (by omega)] at ht
 simp [ht]
end Go.Proofs.YtcdeonjdipcgpaaGreatDoor
