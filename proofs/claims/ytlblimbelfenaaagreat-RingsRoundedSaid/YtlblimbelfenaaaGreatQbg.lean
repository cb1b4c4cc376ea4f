/- Contours, Ends and Alike: the program's and the reference's, by value. -/
import Derived.Test.YtlblimbelfenaaaGreatQbf
import Derived.Test.YtlblimbelfenaaaGreatQao
import Derived.Test.YtlblimbelfenaaaGreatQal
import Derived.Test.YtlblimbelfenaaaGreatQbe
set_option linter.unusedSimpArgs false
set_option linter.unusedVariables false
/- The reference takes a row of segments out of those that are left, by value. -/
-- NEWM
namespace Go.Proofs.YtlblimbelfenaaaGreat
open Go Go.RowKit
set_option maxRecDepth 100000
theorem remove_at : ∀ {l : List Seg5}, (l.map (·.fr)).Nodup → ∀ {i : Nat} {g : Seg5}, l[i]? = some g → l.take i ++ l.drop (i + 1) = l.filter fun k => decide (k.fr ≠ g.fr)
 | [], _, i, g, h => by simp at h
 | k :: l, hn, 0, g, h => by
  rw [List.map_cons, List.nodup_cons] at hn
  simp only [List.getElem?_cons_zero, Option.some.injEq] at h
  subst h
  rw [List.take_zero, List.nil_append, List.filter_cons_of_neg (by simp)]
  refine (List.filter_eq_self.2 fun x hx => ?_).symm
  simp only [ne_eq, decide_not, Bool.not_eq_true', decide_eq_false_iff_not]
  exact fun e => hn.1 (e ▸ List.mem_map.2 ⟨x, hx, rfl⟩)
 | k :: l, hn, i + 1, g, h => by
  rw [List.map_cons, List.nodup_cons] at hn
  simp only [List.getElem?_cons_succ] at h
  have hk : k.fr ≠ g.fr := fun e => hn.1 (e ▸ List.mem_map.2 ⟨g, List.mem_of_getElem? h, rfl⟩)
  rw [List.take_succ_cons, List.drop_succ_cons, List.cons_append, remove_at hn.2 h, List.filter_cons_of_pos (by simpa using hk)]
def leftP (S : List Seg5) (p : Sid2 → Bool) : List Seg5 := S.filter fun g => !(p g.fr)
theorem leftP_congr {S : List Seg5} {p q : Sid2 → Bool} (h : ∀ g ∈ S, p g.fr = q g.fr) : leftP S p = leftP S q := List.filter_congr fun g hg => by rw [h g hg]
theorem leftP_step {S : List Seg5} (hok : SegOk S) {p : Sid2 → Bool} {i : Nat} {g : Seg5} (h : (leftP S p)[i]? = some g) : (leftP S p).take i ++ (leftP S p).drop (i + 1) = leftP S (fun s => p s || decide (s = g.fr)) := by
 have hn : ((leftP S p).map (·.fr)).Nodup := hok.fr.sublist (List.filter_sublist.map _)
 rw [remove_at hn h]
 unfold leftP
 rw [List.filter_filter]
 refine List.filter_congr fun k _ => ?_
 by_cases e : k.fr = g.fr <;> simp [e]
theorem leftP_mem {S : List Seg5} {p : Sid2 → Bool} {g : Seg5} : g ∈ leftP S p ↔ g ∈ S ∧ p g.fr = false := by simp [leftP]
theorem leftP_len (S : List Seg5) (p : Sid2 → Bool) : (leftP S p).length ≤ S.length := List.length_filter_le _ _

theorem Rv.first {N : Nxt} {f : Sid2} {l : List Sid2} (h : Rv N f l) : l.reverse[0]? = some f := by
 induction h with
 | one => rfl
 | more _ _ _ ih => rw [List.reverse_cons, List.getElem?_append_left (by simp)]; exact ih

set_option maxHeartbeats 8000000 in
theorem take_v (S : List Seg5) (hok : SegOk S) (sn : List Sid2) (hsn : Seen (nxt S) sn) (hSl : S.length ≤ 1000) (L : List Seg5) (hL : L = leftP S sn.contains) (c : Nat) (hc : L.length ≤ c) (i : Nat) (g : Seg5) (hg : L[i]? = some g) :
    ACalls Tryz.prog 85 [.c (I i), .p 0 0 0] [.box [.o 1 0 L.length c], .arr 77 5 c (gR L)] fun u H => ∃ (q : Value) (r : List Sid2) (cl : Bool) (L' : List Seg5), u = .a ((conRow (q, (g.fr :: r, cl))).map .c) ∧ H = [.box [.o 1 0 L'.length c], .arr 77 5 c (gR L')] ∧ Ch (nxt S) g.fr g.fr r cl ∧ L' = leftP S (sn ++ g.fr :: r).contains := by
 have hLl : L.length ≤ S.length := by rw [hL]; exact leftP_len _ _
 have hgS := leftP_mem.1 (hL ▸ List.mem_of_getElem? hg : g ∈ leftP S sn.contains)
 have hil : i < L.length := (List.getElem?_eq_some_iff.1 hg).1
 have hns : g.fr ∉ sn := by simpa using hgS.2
 obtain ⟨gi, ⟨ff, ft⟩, ⟨g3, g4⟩⟩ := g
 have hrow : (gR L)[0 + i]? = some [I gi, I ff, I ft, I g3, I g4] := by rw [Nat.zero_add, List.getElem?_map, hg]; rfl
 simp only at hns
 refine acallsx_of false (N := 42) Tryz.func85 rfl rfl (by simp) fun E hE hP => ?_
 refine WA ?_
 refine WA ?_
 refine aw_loopw (fun m F H => ∃ (iz af at_ : Int) (t D : List Sid2) (cd : Nat) (Lk : List Seg5), m = Lk.length ∧ Lk.length ≤ S.length ∧ Lk.length ≤ c ∧ t.length ≤ S.length ∧ Rv (nxt S) ⟨ff, ft⟩ (⟨af, at_⟩ :: t) ∧ D = ((⟨af, at_⟩ : Sid2) :: t).reverse ∧ Lk = leftP S (fun s => sn.contains s || t.contains s) ∧ (⟨af, at_⟩ : Sid2) ∉ sn ∧ (0 ≤ iz → ∃ k : Nat, iz = k ∧ ∃ g', Lk[k]? = some g' ∧ g'.fr = ⟨af, at_⟩) ∧ (iz < 0 → nxt S ⟨af, at_⟩ = none) ∧ F = [(0, .c (I iz)), (1, .p 0 0 0), (3, .p 2 0 0), (4, .p 3 0 0)] ∧ H = [.box [.o 1 0 Lk.length c], .arr 77 5 c (gR Lk), .box [.c (.r (.slice none 0 0) []), .c (B false)], .box [.o 4 0 D.length cd, .c (B false)], .arr 70 2 cd (sR D)]) ?_ ?_
 ·refine wk_of [some 0, some 1, some 2, some 4, some 3] (fun _ => [(0, .c (I i)), (1, .p 0 0 0), (3, .p 2 0 0), (4, .p 3 0 0)]) (fun _ => [.box [.o 1 0 L.length c], .arr 77 5 c (gR L), .box [.c (.r (.slice none 0 0) []), .c (B false)], .box [.o 4 0 1 1, .c (B false)], .arr 70 2 1 [[I ff, I ft]]]) (by decide) (ZNL hE) ZCF ZCH (fun _ => ?_)
  exact ⟨L.length, i, ff, ft, [], [⟨ff, ft⟩], 1, L, rfl, hLl, hc, by simp, .one, rfl, by rw [hL]; exact leftP_congr fun g _ => by simp, hns, fun _ => ⟨i, rfl, _, hg, rfl⟩, by omega, rfl, rfl⟩
 clear hL hLl hc hrow hil hg
 rintro m F H ⟨iz, af, at_, t, D, cd, Lk, rfl, hLl, hc, htl, hRv, hD, hL, hna, hi1, hi2, rfl, rfl⟩
 have hDl : D.length = t.length + 1 := by rw [hD, List.length_reverse, List.length_cons]
 refine WA ?_
 refine aw_if rfl (fun hge => ?_) (fun hlt => ?_)
 ·obtain ⟨k, rfl, g', hg', hfr⟩ := hi1 (by omega)
  have hkl : k < Lk.length := (List.getElem?_eq_some_iff.1 hg').1
  have hgS' := leftP_mem.1 (hL ▸ List.mem_of_getElem? hg' : g' ∈ leftP S _)
  have hnx := nxt_at hok.fr hgS'.1
  have hst := leftP_step hok (hL ▸ hg')
  rw [← hL, hfr] at hst
  rw [hfr] at hnx
  obtain ⟨hi', ⟨h1, h2⟩, ⟨tf, tt⟩⟩ := g'
  simp only at hfr hnx
  have hrow : (gR Lk)[0 + k]? = some [I hi', I h1, I h2, I tf, I tt] := by rw [Nat.zero_add, List.getElem?_map, hg']; rfl
  have hD0 : (sR D)[0 + 0]? = some [I ff, I ft] := by rw [Nat.zero_add, List.getElem?_map, hD, hRv.first]; rfl
  refine WA ?_
  refine WR ?_
  refine al_ef rfl (ef_call [1] (fun _ => [.arr 77 5 c (gR Lk)]) false (fun _ => deleteG_v Lk k c (by omega) (by omega) (by omega)) rfl .fn rfl (by decide) (by kernel_rfl) rfl (fun _ => .cons (.o rfl rfl) (.cons (.c rfl) (.cons (.c rfl) .nil))) (by decide) (fun _ => .arr rfl rfl .nil) (by simp)) ?_
  rintro F1 H1 ⟨_, _, _, _, ⟨L2, hL2, rfl, rfl⟩, hF, hH⟩
  (refine NSU hF hH ?_; clear hF hH; rintro rfl rfl)
  refine WE ?_
  rw [hst] at hL2
  have hL3 : L2 = leftP S (fun s => sn.contains s || ((⟨af, at_⟩ : Sid2) :: t).contains s) := by
   rw [hL2]
   refine leftP_congr fun g _ => ?_
   rw [List.contains_cons, Bool.or_assoc, Bool.or_comm (t.contains g.fr)]
   congr 2
  have hl2 : L2.length + 1 ≤ Lk.length := by
   have h0 : Lk.length = (Lk.take k ++ Lk.drop (k + 1)).length + 1 := by simp; omega
   rw [hst, ← hL2] at h0
   omega
  refine ZZ ?_
  refine aw_regionT [(0, none), (1, none), (2, none), (3, none), (4, none), (5, none)] hMixed (by kernel_rfl) ?_
  iterate 3 refine WX2 ?_
  refine ZT rfl (rd_index (i := 0) rfl (KE (t := 57) rfl) rfl rfl rfl rfl (by omega)) ?_
  refine WQ ?_
  refine aw_if rfl (fun hbk => ?_) (fun hbk => ?_)
  ·obtain ⟨k1, k2⟩ := hbk
   have e' : nxt S ⟨af, at_⟩ = some ⟨ff, ft⟩ := by rw [hnx, k1, k2]
   refine WA ?_
   refine WA ?_
   obtain ⟨r, hr, hch⟩ := hRv.end_ (.back e')
   have hD2 : D = (⟨ff, ft⟩ : Sid2) :: r := hD.trans hr
   refine aret_of (us := [.a [.o 4 0 D.length cd, .c (B true)]]) [some 0, some 1] (fun g' => .a [.c (.r (g' (.o 4 0 D.length cd)) (sR D)), .c (B true)]) (fun _ => [.box [.o 1 0 (L2).length c], .arr 77 5 c (gR (L2))]) (.cella rfl (KK (t := 137) rfl) (Cells.box rfl) (by simp) (by (try simp only [nm, putL, Nat.reduceAdd, cellsOf, cvOf]) <;> rfl) .nil) (by decide) (ZNK rfl) (fun _ => .aL (.cons (.frz rfl rfl (by rw [List.drop_zero, List.take_of_length_le (by simp)]) (by simp) rfl) (.cons (.c rfl) .nil))) ZCH (fun g' => ⟨g' (.o 4 0 D.length cd), r, true, L2, by rw [hD2]; rfl, rfl, hch, ?_⟩)
   rw [hL3]
   refine leftP_congr fun g _ => ?_
   rw [← hr]
   rw [Bool.eq_iff_iff]
   simp only [Bool.or_eq_true, List.contains_eq_mem, decide_eq_true_eq, List.mem_append, List.mem_reverse]
  ·have hne : (⟨tf, tt⟩ : Sid2) ≠ ⟨ff, ft⟩ := fun h => hbk (by injection h with h1 h2; exact ⟨h1, h2⟩)
   have hRv2 := Rv.more hRv hnx hne
   have hsh := hRv2.short hok
   have hnd := hRv2.nodup hok.inj
   have hnt : (⟨tf, tt⟩ : Sid2) ∉ sn := fun h => hna (hsn.prev _ _ hnx h)
   refine ZZ ?_
   refine WR ?_
   refine al_ef rfl (Zapp (KA (t := 57) rfl)) ?_
   rintro _ _ ⟨_, cc, hcc, rfl, rfl⟩
   refine WE ?_
   refine WR ?_
   refine al_ef rfl (ef_callp [1, 5] (fun _ => [.arr 77 5 c (gR L2), sB ⟨tf, tt⟩]) false (fun _ => idxTo_v L2 c ⟨tf, tt⟩ (by omega)) rfl .fn rfl (by decide) (by kernel_rfl) rfl ZCH (by decide) ZCH (by simp)) ?_
   rintro F1 H1 ⟨_, _, _, _, ⟨r, rfl, rfl, hr1, hr2⟩, hF, hH⟩
   rw [killF_nil] at hF; (refine NSU hF hH ?_; clear hF hH; rintro rfl rfl)
   refine WE ?_
   refine wk_of [some 0, some 1, some 2, some 3, some 4] (fun _ => [(0, .c (I r)), (1, .p 0 0 0), (3, .p 2 0 0), (4, .p 3 0 0)]) (fun _ => [.box [.o 1 0 L2.length c], .arr 77 5 c (gR L2), .box [.c (.r (.slice none 0 0) []), .c (B false)], .box [.o 4 0 (D ++ [(⟨tf, tt⟩ : Sid2)]).length cc, .c (B false)], .arr 70 2 cc (sR (D ++ [(⟨tf, tt⟩ : Sid2)]))]) (by decide) (ZNL hE) ZCF ZCH (fun _ => ?_)
   refine ⟨L2.length, by omega, r, tf, tt, ⟨af, at_⟩ :: t, D ++ [⟨tf, tt⟩], cc, L2, rfl, by omega, by omega, hsh, hRv2, by rw [List.reverse_cons, ← hD], hL3, hnt, fun hr => ?_, fun hr => ?_, rfl, rfl⟩
   ·obtain ⟨j, rfl, ⟨gj, hgj, hpj⟩, _⟩ := hr2 hr
    exact ⟨j, rfl, gj, hgj, by simpa [frIs] using hpj⟩
   ·rw [nxt_none]
    intro hm
    obtain ⟨gj, hgj, ej⟩ := List.mem_map.1 hm
    have h1 := hr1 hr gj
    refine absurd (h1 ?_) (by simp [frIs, ej])
    rw [hL3, leftP_mem]
    refine ⟨hgj, ?_⟩
    rw [ej]
    have h2 := (List.nodup_cons.1 hnd).1
    simpa using ⟨hnt, by simpa using h2⟩
 refine ZZ ?_
 refine WA ?_
 obtain ⟨r, hr, hch⟩ := hRv.end_ (.stop (hi2 (by omega)))
 have hD2 : D = (⟨ff, ft⟩ : Sid2) :: r := hD.trans hr
 refine aret_of (us := [.a [.o 4 0 D.length cd, .c (B false)]]) [some 0, some 1] (fun g' => .a [.c (.r (g' (.o 4 0 D.length cd)) (sR D)), .c (B false)]) (fun _ => [.box [.o 1 0 (Lk).length c], .arr 77 5 c (gR (Lk))]) (.cella rfl (KK (t := 137) rfl) (Cells.box rfl) (by simp) (by (try simp only [nm, putL, Nat.reduceAdd, cellsOf, cvOf]) <;> rfl) .nil) (by decide) (ZNK rfl) (fun _ => .aL (.cons (.frz rfl rfl (by rw [List.drop_zero, List.take_of_length_le (by simp)]) (by simp) rfl) (.cons (.c rfl) .nil))) ZCH (fun g' => ⟨g' (.o 4 0 D.length cd), r, false, Lk, by rw [hD2]; rfl, rfl, hch, ?_⟩)
 rw [hL]
 refine leftP_congr fun g hg => ?_
 have hnn := nxt_none.1 (hi2 (by omega))
 have hgn : g.fr ≠ ⟨af, at_⟩ := fun e => hnn (e ▸ List.mem_map.2 ⟨g, hg, rfl⟩)
 rw [← hr]
 rw [Bool.eq_iff_iff]; simp [hgn]
end Go.Proofs.YtlblimbelfenaaaGreat

/- Plain law: the reference's way through the segments that are left. -/
namespace Go.Proofs.YtlblimbelfenaaaGreat
theorem filter_split {α : Type} {P : α → Bool} : ∀ {S : List α} {i : Nat} {g : α}, (S.filter P)[i]? = some g → ∃ A B, S = A ++ g :: B ∧ A.filter P = (S.filter P).take i
 | [], i, g, h => by simp at h
 | k :: S, i, g, h => by
  by_cases hk : P k = true
  ·rw [List.filter_cons_of_pos hk] at h ⊢
   cases i with
   | zero =>
    simp only [List.getElem?_cons_zero, Option.some.injEq] at h
    subst h
    exact ⟨[], S, rfl, by simp⟩
   | succ i =>
    simp only [List.getElem?_cons_succ] at h
    obtain ⟨A, B, e, e2⟩ := filter_split h
    exact ⟨k :: A, B, by rw [e]; rfl, by rw [List.filter_cons_of_pos hk, List.take_succ_cons, e2]⟩
  ·rw [List.filter_cons_of_neg hk] at h ⊢
   obtain ⟨A, B, e, e2⟩ := filter_split h
   exact ⟨k :: A, B, by rw [e]; rfl, by rw [List.filter_cons_of_neg hk, e2]⟩
theorem leftP_lt {S : List Seg5} {p q : Sid2 → Bool} {g : Seg5} (hpq : ∀ s, p s = true → q s = true) (hg : g ∈ leftP S p) (hq : q g.fr = true) : (leftP S q).length < (leftP S p).length := by
 have e : leftP S q = (leftP S p).filter fun g => !(q g.fr) := by
  unfold leftP
  rw [List.filter_filter]
  refine List.filter_congr fun k _ => ?_
  cases hp : p k.fr with
  | false => simp
  | true => simp [hpq _ hp]
 rw [e, List.length_filter_lt_length_iff_exists]
 exact ⟨g, hg, by simp [hq]⟩
theorem opnB_iff {S : List Seg5} (hok : SegOk S) {sn : List Sid2} (hsn : Seen (nxt S) sn) {g : Seg5} (hg : g ∈ leftP S sn.contains) : opnB (leftP S sn.contains) g = true ↔ folB S g.fr = false := by
 have hns : g.fr ∉ sn := by simpa using (leftP_mem.1 hg).2
 constructor
 ·intro h
  cases hf : folB S g.fr with
  | false => rfl
  | true =>
   obtain ⟨o, ho, e⟩ := folB_iff.1 hf
   have h1 : o ∈ leftP S sn.contains := by
    refine leftP_mem.2 ⟨ho, ?_⟩
    have : o.fr ∉ sn := fun hm => hns (hsn.next o.fr g.fr (e ▸ nxt_at hok.fr ho) hm)
    simpa using this
   unfold opnB at h
   rw [List.any_eq_true.2 ⟨o, h1, by simpa [toIs] using e⟩] at h
   cases h
 ·intro h
  unfold opnB
  rw [Bool.not_eq_true', List.any_eq_false]
  intro o ho ht
  have : folB S g.fr = true := folB_iff.2 ⟨o, (leftP_mem.1 ho).1, by simpa [toIs] using ht⟩
  rw [h] at this; cases this
theorem ph1_step {S : List Seg5} (hok : SegOk S) {sn : List Sid2} (hsn : Seen (nxt S) sn) {i : Nat} {g : Seg5} (hg : (leftP S sn.contains)[i]? = some g) (hop : opnB (leftP S sn.contains) g = true) (hbef : ∀ j < i, ∀ g', (leftP S sn.contains)[j]? = some g' → opnB (leftP S sn.contains) g' = false) {r : List Sid2} {c : Bool} (hc : Ch (nxt S) g.fr g.fr r c) :
    c = false ∧ Seen (nxt S) (sn ++ g.fr :: r) ∧ ∀ o sn', PassP (nxt S) (folB S) false (S.map (·.fr)) (sn ++ g.fr :: r) o sn' → PassP (nxt S) (folB S) false (S.map (·.fr)) sn ((g.fr :: r, false) :: o) sn' := by
 have hgm := List.mem_of_getElem? hg
 have hns : g.fr ∉ sn := by simpa using (leftP_mem.1 hgm).2
 have hnf := (opnB_iff hok hsn hgm).1 hop
 have hno : ∀ p, nxt S p ≠ some g.fr := fun p hp => by
  rw [(folB_nxt hok).2 ⟨p, hp⟩] at hnf; cases hnf
 have hcf : c = false := by
  cases c with
  | false => rfl
  | true => obtain ⟨p, _, hp⟩ := hc.pred.2 rfl; exact absurd hp (hno p)
 refine ⟨hcf, hsn.take hok.inj hc (.inr hno), fun o sn' h => ?_⟩
 obtain ⟨A, B, e, eA⟩ := filter_split hg
 have el : S.map (·.fr) = A.map (·.fr) ++ g.fr :: B.map (·.fr) := by
  conv => lhs; rw [e]
  rw [List.map_append, List.map_cons]
 have hA : ∀ x ∈ A.map (·.fr), x ∈ sn ∨ ((false : Bool) = false ∧ folB S x = true) := fun x hx => by
  obtain ⟨k, hk, rfl⟩ := List.mem_map.1 hx
  by_cases hks : k.fr ∈ sn
  ·exact .inl hks
  ·right
   refine ⟨rfl, ?_⟩
   have hkl : k ∈ (leftP S sn.contains).take i := eA ▸ List.mem_filter.2 ⟨hk, by simpa using hks⟩
   obtain ⟨j, hj, ej⟩ := List.getElem_of_mem hkl
   rw [List.length_take] at hj
   have hkj : (leftP S sn.contains)[j]? = some k := by
    rw [List.getElem_take] at ej
    rw [List.getElem?_eq_getElem (by omega), ej]
   have := hbef j (by omega) k hkj
   cases hf : folB S k.fr with
   | true => rfl
   | false => rw [(opnB_iff hok hsn (List.mem_of_getElem? hkj)).2 hf] at this; cases this
 rw [el] at h ⊢
 exact PassP.anew hA hns (fun h => by rw [hnf] at h; cases h.2) hc h
theorem ph1_end {S : List Seg5} (hok : SegOk S) {sn : List Sid2} (hsn : Seen (nxt S) sn) (h : ∀ g ∈ leftP S sn.contains, opnB (leftP S sn.contains) g = false) : (∀ g ∈ S, g.fr ∉ sn → folB S g.fr = true) ∧ PassP (nxt S) (folB S) false (S.map (·.fr)) sn [] sn := by
 have h1 : ∀ g ∈ S, g.fr ∉ sn → folB S g.fr = true := fun g hg hn => by
  have hgm : g ∈ leftP S sn.contains := leftP_mem.2 ⟨hg, by simpa using hn⟩
  cases hf : folB S g.fr with
  | true => rfl
  | false => have := h g hgm; rw [(opnB_iff hok hsn hgm).2 hf] at this; cases this
 refine ⟨h1, PassP.none_ fun f hf => ?_⟩
 obtain ⟨g, hg, rfl⟩ := List.mem_map.1 hf
 by_cases hn : g.fr ∈ sn
 ·exact .inl hn
 ·exact .inr ⟨rfl, h1 g hg hn⟩
theorem ph2_step {S : List Seg5} (hok : SegOk S) {sn : List Sid2} (hsn : Seen (nxt S) sn) (hf : ∀ g ∈ S, g.fr ∉ sn → folB S g.fr = true) {g : Seg5} (hg : (leftP S sn.contains)[0]? = some g) {r : List Sid2} {c : Bool} (hc : Ch (nxt S) g.fr g.fr r c) :
    c = true ∧ Seen (nxt S) (sn ++ g.fr :: r) ∧ ∀ o sn', PassP (nxt S) (folB S) true (S.map (·.fr)) (sn ++ g.fr :: r) o sn' → PassP (nxt S) (folB S) true (S.map (·.fr)) sn ((g.fr :: r, true) :: o) sn' := by
 have hgm := List.mem_of_getElem? hg
 have hns : g.fr ∉ sn := by simpa using (leftP_mem.1 hgm).2
 have hct : c = true := row_closed hok hsn hf (List.mem_map.2 ⟨g, (leftP_mem.1 hgm).1, rfl⟩) hns hc
 refine ⟨hct, hsn.take hok.inj hc (.inl hct), fun o sn' h => ?_⟩
 obtain ⟨A, B, e, eA⟩ := filter_split hg
 have el : S.map (·.fr) = A.map (·.fr) ++ g.fr :: B.map (·.fr) := by
  conv => lhs; rw [e]
  rw [List.map_append, List.map_cons]
 have hA : ∀ x ∈ A.map (·.fr), x ∈ sn ∨ ((true : Bool) = false ∧ folB S x = true) := fun x hx => by
  obtain ⟨k, hk, rfl⟩ := List.mem_map.1 hx
  by_cases hks : k.fr ∈ sn
  ·exact .inl hks
  ·have hkl : k ∈ (leftP S sn.contains).take 0 := eA ▸ List.mem_filter.2 ⟨hk, by simpa using hks⟩
   rw [List.take_zero] at hkl; cases hkl
 rw [el] at h ⊢
 exact PassP.anew hA hns (fun h => by cases h.1) hc h
theorem ph2_end {S : List Seg5} {sn : List Sid2} (h : leftP S sn.contains = []) : PassP (nxt S) (folB S) true (S.map (·.fr)) sn [] sn := by
 refine PassP.none_ fun f hf => ?_
 obtain ⟨g, hg, rfl⟩ := List.mem_map.1 hf
 left
 by_cases hn : g.fr ∈ sn
 ·exact hn
 ·have : g ∈ leftP S sn.contains := leftP_mem.2 ⟨hg, by simpa using hn⟩
  rw [h] at this; cases this
end Go.Proofs.YtlblimbelfenaaaGreat

/- Contours of the reference, by value. -/
-- NEWM
namespace Go.Proofs.YtlblimbelfenaaaGreat
open Go Go.RowKit
set_option maxRecDepth 100000
set_option maxHeartbeats 16000000 in
theorem contours_r (v w : Value) (V : List Vec3) (Fs : List Fac3) (z : Int) (hM : MOk V Fs) : ACalls Tryz.prog 27 [mshA v w V Fs, .c (I z)] [] fun u H => ∃ (q1 q2 : Value) (l : List (Value × Con)), u = .t [.c (.r q1 (l.map fun p => [CV.r p.1 (sR p.2.1)])), .c (.r q2 (l.map fun p => [B p.2.2]))] ∧ H = [] ∧ IsConts (sgL V Fs z) (l.map Prod.snd) := by
 have hlf := hM.lf
 have hok0 := sgL_ok (z := z) hM
 have hSl := sgL_len V Fs z
 refine acalls_of (N := 60) Tryz.func27 rfl rfl (by simp) fun E hE => ?_
 refine WA ?_
 refine WR ?_
 refine al_ef rfl (ef_call [] (fun _ => []) false (fun _ => segments_ro v w V Fs z hM) rfl .fn rfl (by decide) (by kernel_rfl) rfl (fun _ => C0 rfl) (by decide) (fun _ => .nil) (by simp)) ?_
 rintro F1 H1 ⟨_, _, _, _, ⟨c, hc, rfl, rfl⟩, hF, hH⟩
 (refine NSU hF hH ?_; clear hF hH; rintro rfl rfl)
 refine WE ?_
 generalize sgL V Fs z = S at hok0 hSl hc ⊢
 refine WR ?_
 refine al_ef rfl (ef_callp [1] (fun _ => [.arr 77 5 c (gR S)]) false (fun _ => sortSeg_v S c (by omega)) rfl .fn rfl (by decide) (by kernel_rfl) rfl ZCH (by decide) (fun _ => .arr rfl rfl .nil) (by simp)) ?_
 rintro F1 H1 ⟨_, _, _, _, ⟨T, rfl, rfl, hTp, hTs⟩, hF, hH⟩
 rw [killF_nil] at hF; (refine NSU hF hH ?_; clear hF hH; rintro rfl rfl)
 refine WE ?_
 have hok := hok0.perm hTp
 have hTl : S.length = T.length := hTp.length_eq.symm
 have hN := nxt_perm hok0 hTp
 have hFB := folB_perm hTp
 rw [hTl]
 rw [hTl] at hSl hc
 refine WA ?_
 refine WA ?_
 refine aw_loopw (fun m F H => ∃ (sn : List Sid2) (L : List Seg5) (O : List (Value × Con)) (co : Nat), m = L.length ∧ Seen (nxt T) sn ∧ L = leftP T sn.contains ∧ L.length ≤ c ∧ O.length + L.length ≤ T.length ∧ (∀ o s', PassP (nxt T) (folB T) false (T.map (·.fr)) sn o s' → PassP (nxt T) (folB T) false (T.map (·.fr)) [] (O.map Prod.snd ++ o) s') ∧ F = [(6, .p 0 0 0), (7, .o 2 0 O.length co), (8, .f (.func 85) [.p 0 0 0])] ∧ H = [.box [.o 1 0 L.length c], .arr 77 5 c (gR L), .arr 137 2 co (cR O)]) ?_ ?_
 ·refine wk_of [some 2, some 1, none] (fun _ => [(6, .p 0 0 0), (7, .o 2 0 0 0), (8, .f (.func 85) [.p 0 0 0])]) (fun _ => [.box [.o 1 0 T.length c], .arr 77 5 c (gR T), .arr 137 2 0 []]) (by decide) (ZNL hE) ZCF ZCH (fun _ => ?_)
  exact ⟨T.length, [], T, [], 0, rfl, .nil _, (List.filter_eq_self.2 (by simp)).symm, hc, by simp, fun o s' h => h, rfl, rfl⟩
 rintro m F H ⟨sn, L, O, co, rfl, hsn, hL, hc, hO, hinv, rfl, rfl⟩
 refine WR ?_
 refine al_ef rfl (ef_callp [0, 1] (fun _ => [.box [.o 1 0 L.length c], .arr 77 5 c (gR L)]) false (fun _ => idxOp_v L c trivial (by omega)) rfl .fn rfl (by decide) (by kernel_rfl) rfl ZCH (by decide) ZCH (by simp)) ?_
 rintro F1 H1 ⟨_, _, _, _, ⟨r, rfl, rfl, hr1, hr2⟩, hF, hH⟩
 rw [killF_nil] at hF; (refine NSU hF hH ?_; clear hF hH; rintro rfl rfl)
 refine WE ?_
 refine WA ?_
 refine aw_if rfl (fun hneg => ?_) (fun hpos => ?_)
 ·obtain ⟨hfol, hP1⟩ := ph1_end hok hsn (by rw [← hL]; exact hr1 hneg)
  have hP1 := hinv [] sn hP1
  rw [List.append_nil] at hP1
  clear hr1 hr2 hneg hinv
  refine ZZ ?_
  generalize hO1 : O.map Prod.snd = o1 at hP1
  refine aw_loopw (fun m F H => ∃ (sn2 : List Sid2) (L : List Seg5) (O : List (Value × Con)) (co : Nat) (o2 : List Con), m = L.length ∧ Seen (nxt T) sn2 ∧ (∀ g ∈ T, g.fr ∉ sn2 → folB T g.fr = true) ∧ L = leftP T sn2.contains ∧ L.length ≤ c ∧ O.length + L.length ≤ T.length ∧ O.map Prod.snd = o1 ++ o2 ∧ (∀ o s', PassP (nxt T) (folB T) true (T.map (·.fr)) sn2 o s' → PassP (nxt T) (folB T) true (T.map (·.fr)) sn (o2 ++ o) s') ∧ F = [(6, .p 0 0 0), (7, .o 2 0 O.length co), (8, .f (.func 85) [.p 0 0 0])] ∧ H = [.box [.o 1 0 L.length c], .arr 77 5 c (gR L), .arr 137 2 co (cR O)]) ?_ ?_
  ·refine wk_of [some 0, some 1, some 2] (fun _ => [(6, .p 0 0 0), (7, .o 2 0 O.length co), (8, .f (.func 85) [.p 0 0 0])]) (fun _ => [.box [.o 1 0 L.length c], .arr 77 5 c (gR L), .arr 137 2 co (cR O)]) (by decide) (ZNL hE) ZCF ZCH (fun _ => ?_)
   exact ⟨L.length, sn, L, O, co, [], rfl, hsn, hfol, hL, hc, hO, by rw [hO1, List.append_nil], fun o s' h => h, rfl, rfl⟩
  clear hO hc hL hO1 hsn hfol
  rintro m F H ⟨sn2, L, O, co, o2, rfl, hsn, hfol, hL, hc, hO, hO2, hinv, rfl, rfl⟩
  refine WA ?_
  refine aw_if rfl (fun hpos => ?_) (fun hneg => ?_)
  ·obtain ⟨g, hg⟩ : ∃ z, L[0]? = some z := ⟨_, List.getElem?_eq_getElem (by omega)⟩
   refine ZZ ?_
   refine WR ?_
   refine al_ef rfl (ef_call [0, 1] (fun _ => [.box [.o 1 0 L.length c], .arr 77 5 c (gR L)]) false (fun _ => take_v T hok sn2 hsn (by omega) L hL c hc 0 g hg) rfl (.clo rfl) rfl (by decide) (by kernel_rfl) rfl ZCH (by decide) ZCH (by simp)) ?_
   rintro F1 H1 ⟨_, _, _, _, ⟨q0, r, cl, L', rfl, rfl, hch, hL'⟩, hF, hH⟩
   (refine NSU hF hH ?_; clear hF hH; rintro rfl rfl)
   refine WO ?_
   refine al_ef rfl (Zapp (KA (t := 135) rfl)) ?_
   rintro _ _ ⟨_, cc, hcc, rfl, rfl⟩
   refine WE ?_
   obtain ⟨hct, hsn', hstep⟩ := ph2_step hok hsn hfol (hL ▸ hg) hch
   subst hct
   have hlt := leftP_lt (S := T) (p := sn2.contains) (q := (sn2 ++ g.fr :: r).contains) (g := g) (fun s hs => by simp at hs ⊢; exact .inl hs) (hL ▸ List.mem_of_getElem? hg) (by simp)
   rw [← hL, ← hL'] at hlt
   refine wk_of [some 0, some 1, some 2] (fun _ => [(6, .p 0 0 0), (7, .o 2 0 (O ++ [(q0, (g.fr :: r, true))]).length cc), (8, .f (.func 85) [.p 0 0 0])]) (fun _ => [.box [.o 1 0 L'.length c], .arr 77 5 c (gR L'), .arr 137 2 cc (cR O ++ [conRow (q0, (g.fr :: r, true))])]) (by decide) (ZNL hE) ZCF ZCH (fun _ => ?_)
   refine ⟨L'.length, by omega, sn2 ++ g.fr :: r, L', O ++ [(q0, (g.fr :: r, true))], cc, o2 ++ [(g.fr :: r, true)], rfl, hsn', fun k hk hn => hfol k hk (fun h => hn (List.mem_append_left _ h)), hL', by omega, by simp; omega, by rw [List.map_append, hO2, List.append_assoc]; rfl, fun o s' h => ?_, rfl, by simp⟩
   rw [List.append_assoc]
   exact hinv _ _ (hstep o s' h)
  have hP2 := hinv [] sn2 (ph2_end (by rw [← hL]; exact List.eq_nil_of_length_eq_zero (by omega)))
  rw [List.append_nil] at hP2
  have hne : ∀ p ∈ O, p.2.1 ≠ [] := fun p hp => by
   have : p.2 ∈ o1 ++ o2 := hO2 ▸ List.mem_map.2 ⟨p, hp, rfl⟩
   rcases List.mem_append.1 this with h | h
   ·exact hP1.ne _ h
   ·exact hP2.ne _ h
  refine ZZ ?_
  refine WR ?_
  refine al_ef rfl (ef_callp [2] (fun _ => [.arr 137 2 co (cR O)]) false (fun _ => sortRon_v O hne co (by omega)) rfl .fn rfl (by decide) (by kernel_rfl) rfl ZCH (by decide) (fun _ => .arr rfl rfl .nil) (by simp)) ?_
  rintro F1 H1 ⟨_, _, _, _, ⟨l, rfl, rfl, hp, hs⟩, hF, hH⟩
  rw [killF_nil] at hF; (refine NSU hF hH ?_; clear hF hH; rintro rfl rfl)
  refine WE ?_
  have hll := hp.length_eq
  rw [← hll]
  have hcon : IsConts S (l.map Prod.snd) := by
   rw [hN, hFB, hTs] at hP1 hP2
   exact IsConts.of hP1 hP2 hO2 (hp.map Prod.snd) hs
  clear hP1 hP2 hO2 hinv hs hp hne
  have hl1000 : l.length ≤ 1000 := by omega
  clear hll hO
  refine WA ?_
  refine WA ?_
  refine WA ?_
  refine aw_loopw (fun m F H => ∃ (j ca cb : Nat) (A C : List (List CV)), m + j = l.length ∧ A.length = j ∧ C.length = j ∧ A = ((l.take j).map fun p => [CV.r p.1 (sR p.2.1)]) ∧ C = ((l.take j).map fun p => [B p.2.2]) ∧ F = [(10, .o 1 0 A.length ca), (11, .o 2 0 C.length cb), (41, .o 0 0 l.length co), (42, .c (I l.length)), (43, .c (I j))] ∧ H = [.arr 137 2 co (cR l), .arr 57 1 ca A, .arr 4 1 cb C]) ?_ ?_
  ·refine wk_of [some 2, none, none] (fun _ => [(10, .o 1 0 0 0), (11, .o 2 0 0 0), (41, .o 0 0 l.length co), (42, .c (I l.length)), (43, .c (I (0 : Nat)))]) (fun _ => [.arr 137 2 co (cR l), .arr 57 1 0 [], .arr 4 1 0 []]) (by decide) (ZNL hE) ZCF ZCH (fun _ => ?_)
   exact ⟨l.length, 0, 0, 0, [], [], by omega, rfl, rfl, rfl, rfl, rfl, rfl⟩
  rintro m F H ⟨j, ca, cb, A, C, hj, hAl, hCl, hA, hC, rfl, rfl⟩
  refine WA ?_
  refine aw_if rfl (fun hlt => ?_) (fun hge => ?_)
  ·obtain ⟨p, hp⟩ : ∃ z, l[j]? = some z := ⟨_, List.getElem?_eq_getElem (by omega)⟩
   have ht := take_snoc hp
   obtain ⟨pv, ps, pb⟩ := p
   have hrow0 : (cR l)[0 + j]? = some [.r pv (sR ps), B pb] := by rw [Nat.zero_add, List.getElem?_map, hp]; rfl
   refine WA ?_
   refine ZZ ?_
   refine aw_regionM [[(0, none), (1, none), (2, none), (5, none), (6, none), (7, none), (3, some [0, 5, 6, 7]), (4, some [5, 6, 7]), (8, some [0, 1, 2, 5]), (9, some []), (10, none), (11, none)], [(0, none), (1, none), (2, none), (5, none), (6, none), (7, none), (3, some [0, 5, 6, 7]), (8, some [0, 1, 2, 5]), (4, some [5, 6, 7]), (9, some []), (10, none), (11, none)], [(0, none), (1, none), (2, none), (5, none), (6, none), (7, none), (8, some [0, 1, 2, 5]), (3, some [0, 5, 6, 7]), (4, some [5, 6, 7]), (9, some []), (10, none), (11, none)]] hMixed (by kernel_rfl) ?_
   focus
    refine WM ?_
    refine am_two (by rfl) (by rfl) (by rfl) ?_ ?_
    rotate_left
    refine WM ?_
    refine am_ef (i := 4) (by rfl) (by rfl) rfl rfl (Zapp (KA (t := 53) rfl)) ?_
    rintro _ _ ⟨_, cc, hcc, rfl, rfl⟩
    refine ⟨AGX, ?_⟩
    refine am_ef (i := 9) (by rfl) (by rfl) rfl rfl (Zapp (KA (t := 54) rfl)) ?_
    rintro _ _ ⟨_, cc, hcc, rfl, rfl⟩
    refine ⟨AGX, ?_⟩
    refine WN ?_
    rotate_right
    refine WM ?_
    refine am_two (by rfl) (by rfl) (by rfl) ?_ ?_
    rotate_left
    refine WM ?_
    refine am_ef (i := 4) (by rfl) (by rfl) rfl rfl (Zapp (KA (t := 53) rfl)) ?_
    rintro _ _ ⟨_, cc, hcc, rfl, rfl⟩
    refine ⟨AGX, ?_⟩
    refine am_ef (i := 9) (by rfl) (by rfl) rfl rfl (Zapp (KA (t := 54) rfl)) ?_
    rintro _ _ ⟨_, cc, hcc, rfl, rfl⟩
    refine ⟨AGX, ?_⟩
    refine WN ?_
    rotate_right
    refine am_ef (i := 4) (by rfl) (by rfl) rfl rfl (Zapp (KA (t := 53) rfl)) ?_
    rintro _ _ ⟨_, cc, hcc, rfl, rfl⟩
    refine ⟨AGX, ?_⟩
    refine WM ?_
    refine am_ef (i := 9) (by rfl) (by rfl) rfl rfl (Zapp (KA (t := 54) rfl)) ?_
    rintro _ _ ⟨_, cc, hcc, rfl, rfl⟩
    refine ⟨AGX, ?_⟩
    refine WN ?_
   all_goals (refine WA ?_)
   all_goals (refine wk_of [some 0, some 1, some 2] (fun _ => [(10, .o 1 0 (A ++ [[CV.r pv (sR ps)]]).length _), (11, .o 2 0 (C ++ [[B pb]]).length _), (41, .o 0 0 l.length co), (42, .c (I l.length)), (43, .c (I (j + 1 : Nat)))]) (fun _ => _) (by decide) (ZNL hE) ZCF ZCH (fun _ => ?_))
   all_goals (exact ⟨m - 1, by omega, j + 1, _, _, A ++ [[CV.r pv (sR ps)]], C ++ [[B pb]], by omega, by simp; omega, by simp; omega, by rw [ht, hA]; simp, by rw [ht, hC]; simp, rfl, rfl⟩)
  obtain rfl : l.length = j := by omega
  refine ZZ ?_
  rw [List.take_of_length_le (Nat.le_refl _)] at hA hC
  refine WA ?_
  exact aret_of (us := [.o 1 0 A.length ca, .o 2 0 C.length cb]) [] (fun g => .t [.c (.r (g (.o 1 0 A.length ca)) A), .c (.r (g (.o 2 0 C.length cb)) C)]) (fun _ => []) (.tmp rfl (.tmp rfl .nil)) (by decide) (ZNK rfl) (fun _ => .tL (.cons (.frz rfl rfl (by rw [List.drop_zero, List.take_length]) rfl rfl) (.cons (.frz rfl rfl (by rw [List.drop_zero, List.take_length]) rfl rfl) .nil))) (fun _ => .nil) (fun g => ⟨_, _, l, by rw [hA, hC], rfl, hcon⟩)
 ·obtain ⟨i, rfl, ⟨g, hg, hgo⟩, hbef⟩ := hr2 (by omega)
  clear hr1 hr2
  refine ZZ ?_
  refine WR ?_
  refine al_ef rfl (ef_call [0, 1] (fun _ => [.box [.o 1 0 L.length c], .arr 77 5 c (gR L)]) false (fun _ => take_v T hok sn hsn (by omega) L hL c hc i g hg) rfl (.clo rfl) rfl (by decide) (by kernel_rfl) rfl ZCH (by decide) ZCH (by simp)) ?_
  rintro F1 H1 ⟨_, _, _, _, ⟨q0, r, cl, L', rfl, rfl, hch, hL'⟩, hF, hH⟩
  (refine NSU hF hH ?_; clear hF hH; rintro rfl rfl)
  refine WO ?_
  refine al_ef rfl (Zapp (KA (t := 135) rfl)) ?_
  rintro _ _ ⟨_, cc, hcc, rfl, rfl⟩
  refine WE ?_
  obtain ⟨hct, hsn', hstep⟩ := ph1_step hok hsn (hL ▸ hg) (hL ▸ hgo) (hL ▸ hbef) hch
  subst hct
  have hlt := leftP_lt (S := T) (p := sn.contains) (q := (sn ++ g.fr :: r).contains) (g := g) (fun s hs => by simp at hs ⊢; exact .inl hs) (hL ▸ List.mem_of_getElem? hg) (by simp)
  rw [← hL, ← hL'] at hlt
  refine wk_of [some 0, some 1, some 2] (fun _ => [(6, .p 0 0 0), (7, .o 2 0 (O ++ [(q0, (g.fr :: r, false))]).length cc), (8, .f (.func 85) [.p 0 0 0])]) (fun _ => [.box [.o 1 0 L'.length c], .arr 77 5 c (gR L'), .arr 137 2 cc (cR O ++ [conRow (q0, (g.fr :: r, false))])]) (by decide) (ZNL hE) ZCF ZCH (fun _ => ?_)
  refine ⟨L'.length, by omega, sn ++ g.fr :: r, L', O ++ [(q0, (g.fr :: r, false))], cc, rfl, hsn', hL', by omega, by simp; omega, fun o s' h => ?_, rfl, by simp⟩
  rw [List.map_append, List.append_assoc]
  exact hinv _ _ (hstep o s' h)
end Go.Proofs.YtlblimbelfenaaaGreat

/- Small functions of the program and of its document, by value: within a span, first errors, searches and comparisons of lists. -/
namespace Go.Proofs.YtlblimbelfenaaaGreat
open Go Go.RowKit
set_option maxRecDepth 100000
theorem take_nextk {α : Type} {l : List α} {k : Nat} {s : α} (h : l[k]? = some s) : l.take (k + 1) = l.take k ++ [s] := by
 rw [List.take_add_one, h]; rfl
end Go.Proofs.YtlblimbelfenaaaGreat

/- Equal lists of cuts, segments, sides, contours, by value. -/
-- NEWM
namespace Go.Proofs.YtlblimbelfenaaaGreat
open Go Go.RowKit
set_option maxRecDepth 100000
theorem take_lastk {α : Type} {l : List α} {k : Nat} {x : α} (h : l[k]? = some x) : l.take (k + 1) = l.take k ++ [x] := by rw [List.take_add_one, h]; rfl
abbrev sidR (l : List (Value × Con)) : List (List CV) := l.map fun p => [.r p.1 (sR p.2.1)]
abbrev cloR (l : List (Value × Con)) : List (List CV) := l.map fun p => [B p.2.2]
end Go.Proofs.YtlblimbelfenaaaGreat

/- Contours, Ends and Alike: the program's and the reference's, by value. -/
-- NEWM
namespace Go.Proofs.YtlblimbelfenaaaGreat
open Go Go.RowKit
set_option maxRecDepth 100000
theorem Ch.rv {N : Nxt} {f a : Sid2} {l : List Sid2} {c : Bool} (h : Ch N f a l c) : ∀ t, Rv N f (a :: t) → ∃ b t', Rv N f (b :: t') ∧ t'.length = l.length + t.length := by
 induction h with
 | stop _ => intro t hr; exact ⟨_, t, hr, by simp⟩
 | back _ => intro t hr; exact ⟨_, t, hr, by simp⟩
 | go h1 h2 _ ih =>
  intro t hr
  obtain ⟨b, t', h3, h4⟩ := ih _ (.more hr h1 h2)
  exact ⟨b, t', h3, by simp at h4 ⊢; omega⟩
theorem Ch.short {S : List Seg5} (hok : SegOk S) {f : Sid2} {l : List Sid2} {c : Bool} (h : Ch (nxt S) f f l c) : l.length ≤ S.length := by
 obtain ⟨b, t', hr, e⟩ := h.rv [] .one
 have := hr.short hok
 simp at e
 omega
theorem IsConts.small {S : List Seg5} (hok : SegOk S) {cs : List Con} (h : IsConts S cs) : cs.length ≤ S.length ∧ ∀ k ∈ cs, k.1 ≠ [] ∧ k.1.length ≤ S.length + 1 := by
 obtain ⟨l, o1, s1, o2, s2, h1, h2, h3, h4, h5, h6⟩ := h
 have hm : ∀ k ∈ o1 ++ o2, ∃ f r is, k = (f :: r, is) ∧ f ∈ l ∧ ∃ c, Ch (nxt S) f f r c := fun k hk => by
  rcases List.mem_append.1 hk with hk | hk
  ·obtain ⟨f, r, e, _, _, m, hc⟩ := h3.heads.2.1 k hk; exact ⟨f, r, _, e, m, hc⟩
  ·obtain ⟨f, r, e, _, _, m, hc⟩ := h4.heads.2.1 k hk; exact ⟨f, r, _, e, m, hc⟩
 have hn : ((o1 ++ o2).map fun k => k.1.head?).Nodup := by
  rw [List.map_append, List.nodup_append]
  refine ⟨h3.heads.2.2, h4.heads.2.2, fun x hx y hy e => ?_⟩
  subst e
  obtain ⟨k, hk, e1⟩ := List.mem_map.1 hx
  obtain ⟨k', hk', e2⟩ := List.mem_map.1 hy
  obtain ⟨f, r, rfl, _, m1, _⟩ := h3.heads.2.1 k hk
  obtain ⟨f', r', rfl, m2, _⟩ := h4.heads.2.1 k' hk'
  rw [← e1] at e2
  simp only [List.head?_cons, Option.some.injEq] at e2
  subst e2
  exact m2 m1
 refine ⟨?_, fun k hk => ?_⟩
 ·have h7 := hn.length_le_of_subset (l₂ := l.map some) fun x hx => by
   obtain ⟨k, hk, rfl⟩ := List.mem_map.1 hx
   obtain ⟨f, r, is, rfl, m, _⟩ := hm k hk
   exact List.mem_map.2 ⟨f, m, rfl⟩
  have h8 := h1.length_eq
  have h9 := h5.length_eq
  simp only [List.length_map] at h7 h8
  omega
 ·obtain ⟨f, r, is, rfl, _, c, hc⟩ := hm k (h5.subset hk)
  have := hc.short hok
  exact ⟨by simp, by simp only [List.length_cons]; omega⟩
end Go.Proofs.YtlblimbelfenaaaGreat
