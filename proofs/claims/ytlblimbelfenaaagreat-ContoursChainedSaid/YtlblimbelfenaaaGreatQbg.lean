/- Plain law: the reference's way through the segments that are left. -/
import Derived.Test.YtlblimbelfenaaaGreatQbf
set_option linter.unusedSimpArgs false
set_option linter.unusedVariables false
/- The reference takes a row of segments out of those that are left, by value. -/
-- NEWM
namespace Go.Proofs.YtlblimbelfenaaaGreat
open Go Go.RowKit
set_option maxRecDepth 100000
/- ## Plain -/
theorem remove_at : ∀ {l : List Seg5}, (l.map (·.fr)).Nodup → ∀ {i : Nat} {g : Seg5}, l[i]? = some g → l.take i ++ l.drop (i + 1) = l.filter fun k => decide (k.fr ≠ g.fr)
  | [], _, i, g, h => by simp at h
  | k :: l, hn, 0, g, h => by
    rw [List.map_cons, List.nodup_cons] at hn
    simp only [List.getElem?_cons_zero, Option.some.injEq] at h
    subst h
    rw [List.take_zero, List.nil_append, List.filter_cons_of_neg (by simp)]
    refine (List.filter_eq_self.2 fun x hx => ?_).symm
    simp only [ne_eq, decide_not, Bool.not_eq_true', decide_eq_false_iff_not]
    exact fun e => hn.1 (e ▸ List.mem_map.2 ⟨x, hx, rfl⟩)
  | k :: l, hn, i + 1, g, h => by
    rw [List.map_cons, List.nodup_cons] at hn
    simp only [List.getElem?_cons_succ] at h
    have hk : k.fr ≠ g.fr := fun e => hn.1 (e ▸ List.mem_map.2 ⟨g, List.mem_of_getElem? h, rfl⟩)
    rw [List.take_succ_cons, List.drop_succ_cons, List.cons_append, remove_at hn.2 h, List.filter_cons_of_pos (by simpa using hk)]
/-- Those that are left. -/
def leftP (S : List Seg5) (p : Sid2 → Bool) : List Seg5 := S.filter fun g => !(p g.fr)
theorem leftP_congr {S : List Seg5} {p q : Sid2 → Bool} (h : ∀ g ∈ S, p g.fr = q g.fr) : leftP S p = leftP S q := List.filter_congr fun g hg => by rw [h g hg]
theorem leftP_step {S : List Seg5} (hok : SegOk S) {p : Sid2 → Bool} {i : Nat} {g : Seg5} (h : (leftP S p)[i]? = some g) : (leftP S p).take i ++ (leftP S p).drop (i + 1) = leftP S (fun s => p s || decide (s = g.fr)) := by
  have hn : ((leftP S p).map (·.fr)).Nodup := hok.fr.sublist (List.filter_sublist.map _)
  rw [remove_at hn h]
  unfold leftP
  rw [List.filter_filter]
  refine List.filter_congr fun k _ => ?_
  by_cases e : k.fr = g.fr <;> simp [e]
theorem leftP_mem {S : List Seg5} {p : Sid2 → Bool} {g : Seg5} : g ∈ leftP S p ↔ g ∈ S ∧ p g.fr = false := by simp [leftP]
theorem leftP_len (S : List Seg5) (p : Sid2 → Bool) : (leftP S p).length ≤ S.length := List.length_filter_le _ _

theorem Rv.first {N : Nxt} {f : Sid2} {l : List Sid2} (h : Rv N f l) : l.reverse[0]? = some f := by
  induction h with
  | one => rfl
  | more _ _ _ ih => rw [List.reverse_cons, List.getElem?_append_left (by simp)]; exact ih

/- ## The walk -/
set_option maxHeartbeats 8000000 in
theorem take_v (S : List Seg5) (hok : SegOk S) (sn : List Sid2) (hsn : Seen (nxt S) sn) (hSl : S.length ≤ 1000) (L : List Seg5) (hL : L = leftP S sn.contains) (c : Nat) (hc : L.length ≤ c) (i : Nat) (g : Seg5) (hg : L[i]? = some g) :
    ACalls Tryz.prog 85 [.c (I i), .p 0 0 0] [.box [.o 1 0 L.length c], .arr 77 5 c (gR L)] fun u H => ∃ (q : Value) (r : List Sid2) (cl : Bool) (L' : List Seg5), u = .a ((conRow (q, (g.fr :: r, cl))).map .c) ∧ H = [.box [.o 1 0 L'.length c], .arr 77 5 c (gR L')] ∧ Ch (nxt S) g.fr g.fr r cl ∧ L' = leftP S (sn ++ g.fr :: r).contains := by
  have hLl : L.length ≤ S.length := by rw [hL]; exact leftP_len _ _
  have hgS := leftP_mem.1 (hL ▸ List.mem_of_getElem? hg : g ∈ leftP S sn.contains)
  have hil : i < L.length := (List.getElem?_eq_some_iff.1 hg).1
  have hns : g.fr ∉ sn := by simpa using hgS.2
  obtain ⟨gi, ⟨ff, ft⟩, ⟨g3, g4⟩⟩ := g
  have hrow : (gR L)[0 + i]? = some [I gi, I ff, I ft, I g3, I g4] := by rw [Nat.zero_add, List.getElem?_map, hg]; rfl
  simp only at hns
  refine acallsx_of false (N := 42) Tryz.func85 rfl rfl (by simp) fun E hE hP => ?_
  refine WA ?_
  refine WA ?_
  refine aw_loopw (fun m F H => ∃ (iz af at_ : Int) (t D : List Sid2) (cd : Nat) (Lk : List Seg5), m = Lk.length ∧ Lk.length ≤ S.length ∧ Lk.length ≤ c ∧ t.length ≤ S.length ∧ Rv (nxt S) ⟨ff, ft⟩ (⟨af, at_⟩ :: t) ∧ D = ((⟨af, at_⟩ : Sid2) :: t).reverse ∧ Lk = leftP S (fun s => sn.contains s || t.contains s) ∧ (⟨af, at_⟩ : Sid2) ∉ sn ∧ (0 ≤ iz → ∃ k : Nat, iz = k ∧ ∃ g', Lk[k]? = some g' ∧ g'.fr = ⟨af, at_⟩) ∧ (iz < 0 → nxt S ⟨af, at_⟩ = none) ∧ F = [(0, .c (I iz)), (1, .p 0 0 0), (3, .p 2 0 0), (4, .p 3 0 0)] ∧ H = [.box [.o 1 0 Lk.length c], .arr 77 5 c (gR Lk), .box [.c (.r (.slice none 0 0) []), .c (B false)], .box [.o 4 0 D.length cd, .c (B false)], .arr 70 2 cd (sR D)]) ?_ ?_
  · refine wk_of [some 0, some 1, some 2, some 4, some 3] (fun _ => [(0, .c (I i)), (1, .p 0 0 0), (3, .p 2 0 0), (4, .p 3 0 0)]) (fun _ => [.box [.o 1 0 L.length c], .arr 77 5 c (gR L), .box [.c (.r (.slice none 0 0) []), .c (B false)], .box [.o 4 0 1 1, .c (B false)], .arr 70 2 1 [[I ff, I ft]]]) (by decide) (ZNL hE) ZCF ZCH (fun _ => ?_)
    exact ⟨L.length, i, ff, ft, [], [⟨ff, ft⟩], 1, L, rfl, hLl, hc, by simp, .one, rfl, by rw [hL]; exact leftP_congr fun g _ => by simp, hns, fun _ => ⟨i, rfl, _, hg, rfl⟩, by omega, rfl, rfl⟩
  clear hL hLl hc hrow hil hg
  rintro m F H ⟨iz, af, at_, t, D, cd, Lk, rfl, hLl, hc, htl, hRv, hD, hL, hna, hi1, hi2, rfl, rfl⟩
  have hDl : D.length = t.length + 1 := by rw [hD, List.length_reverse, List.length_cons]
  refine WA ?_
  refine aw_if rfl (fun hge => ?_) (fun hlt => ?_)
  · obtain ⟨k, rfl, g', hg', hfr⟩ := hi1 (by omega)
    have hkl : k < Lk.length := (List.getElem?_eq_some_iff.1 hg').1
    have hgS' := leftP_mem.1 (hL ▸ List.mem_of_getElem? hg' : g' ∈ leftP S _)
    have hnx := nxt_at hok.fr hgS'.1
    have hst := leftP_step hok (hL ▸ hg')
    rw [← hL, hfr] at hst
    rw [hfr] at hnx
    obtain ⟨hi', ⟨h1, h2⟩, ⟨tf, tt⟩⟩ := g'
    simp only at hfr hnx
    have hrow : (gR Lk)[0 + k]? = some [I hi', I h1, I h2, I tf, I tt] := by rw [Nat.zero_add, List.getElem?_map, hg']; rfl
    have hD0 : (sR D)[0 + 0]? = some [I ff, I ft] := by rw [Nat.zero_add, List.getElem?_map, hD, hRv.first]; rfl
    refine WA ?_
    refine WR ?_
    refine al_ef rfl (ef_call [1] (fun _ => [.arr 77 5 c (gR Lk)]) false (fun _ => deleteG_v Lk k c (by omega) (by omega) (by omega)) rfl .fn rfl (by decide) (by kernel_rfl) rfl (fun _ => .cons (.o rfl rfl) (.cons (.c rfl) (.cons (.c rfl) .nil))) (by decide) (fun _ => .arr rfl rfl .nil) (by simp)) ?_
    rintro F1 H1 ⟨_, _, _, _, ⟨L2, hL2, rfl, rfl⟩, hF, hH⟩
    (try simp only [List.set_cons_zero, List.set_cons_succ, updH, posOf, lentArr, killF, killO, killV, AV.has, AV.hasL, AV.emb, AV.embL, OB.emb, embB, List.filter_cons, List.filter_nil, List.getElem?_cons_zero, List.getElem?_cons_succ, List.getD_cons_zero, List.getD_cons_succ, List.drop_succ_cons, List.drop_zero, List.drop_nil, List.contains_cons, List.contains_nil, Nat.reduceBEq, Nat.reduceEqDiff, beq_self_eq_true, Bool.or_false, Bool.false_or, Bool.or_true, Bool.true_or, Bool.false_eq_true, Option.map_some, Option.map_none, List.map_cons, List.map_nil, List.cons_append, List.nil_append, List.append_nil, List.length_cons, List.length_nil, Nat.reduceAdd, Nat.reduceLT, Nat.reduceSub, if_true, if_false, Nat.zero_add, Nat.add_zero, Nat.sub_zero, Nat.lt_irrefl, Nat.not_lt_zero, Nat.zero_lt_one, Nat.lt_add_one] at hF); (try simp only [List.set_cons_zero, List.set_cons_succ, updH, posOf, lentArr, killF, killO, killV, AV.has, AV.hasL, AV.emb, AV.embL, OB.emb, embB, List.filter_cons, List.filter_nil, List.getElem?_cons_zero, List.getElem?_cons_succ, List.getD_cons_zero, List.getD_cons_succ, List.drop_succ_cons, List.drop_zero, List.drop_nil, List.contains_cons, List.contains_nil, Nat.reduceBEq, Nat.reduceEqDiff, beq_self_eq_true, Bool.or_false, Bool.false_or, Bool.or_true, Bool.true_or, Bool.false_eq_true, Option.map_some, Option.map_none, List.map_cons, List.map_nil, List.cons_append, List.nil_append, List.append_nil, List.length_cons, List.length_nil, Nat.reduceAdd, Nat.reduceLT, Nat.reduceSub, if_true, if_false, Nat.zero_add, Nat.add_zero, Nat.sub_zero, Nat.lt_irrefl, Nat.not_lt_zero, Nat.zero_lt_one, Nat.lt_add_one] at hH); subst hF; subst hH
    refine WE ?_
    rw [hst] at hL2
    have hL3 : L2 = leftP S (fun s => sn.contains s || ((⟨af, at_⟩ : Sid2) :: t).contains s) := by
      rw [hL2]
      refine leftP_congr fun g _ => ?_
      rw [List.contains_cons, Bool.or_assoc, Bool.or_comm (t.contains g.fr)]
      congr 2
    have hl2 : L2.length + 1 ≤ Lk.length := by
      have h0 : Lk.length = (Lk.take k ++ Lk.drop (k + 1)).length + 1 := by simp; omega
      rw [hst, ← hL2] at h0
      omega
    refine ZZ ?_
    refine aw_regionT [(0, none), (1, none), (2, none), (3, none), (4, none), (5, none)] hMixed (by kernel_rfl) ?_
    iterate 3 refine WX2 ?_
    refine ZT rfl (rd_index (i := 0) rfl (KE (t := 57) rfl) rfl rfl rfl rfl (by omega)) ?_
    refine WQ ?_
    refine aw_if rfl (fun hbk => ?_) (fun hbk => ?_)
    · obtain ⟨k1, k2⟩ := hbk
      have e' : nxt S ⟨af, at_⟩ = some ⟨ff, ft⟩ := by rw [hnx, k1, k2]
      refine WA ?_
      refine WA ?_
      obtain ⟨r, hr, hch⟩ := hRv.end_ (.back e')
      have hD2 : D = (⟨ff, ft⟩ : Sid2) :: r := hD.trans hr
      refine aret_of (us := [.a [.o 4 0 D.length cd, .c (B true)]]) [some 0, some 1] (fun g' => .a [.c (.r (g' (.o 4 0 D.length cd)) (sR D)), .c (B true)]) (fun _ => [.box [.o 1 0 (L2).length c], .arr 77 5 c (gR (L2))]) (.cella rfl (KK (t := 137) rfl) (Cells.box rfl) (by simp) (by (try simp only [nm, putL, Nat.reduceAdd, cellsOf, cvOf]) <;> rfl) .nil) (by decide) (ZNK rfl) (fun _ => .aL (.cons (.frz rfl rfl (by rw [List.drop_zero, List.take_of_length_le (by simp)]) (by simp) rfl) (.cons (.c rfl) .nil))) ZCH (fun g' => ⟨g' (.o 4 0 D.length cd), r, true, L2, by rw [hD2]; rfl, rfl, hch, ?_⟩)
      rw [hL3]
      refine leftP_congr fun g _ => ?_
      rw [← hr]
      rw [Bool.eq_iff_iff]
      simp only [Bool.or_eq_true, List.contains_eq_mem, decide_eq_true_eq, List.mem_append, List.mem_reverse]
    · have hne : (⟨tf, tt⟩ : Sid2) ≠ ⟨ff, ft⟩ := fun h => hbk (by injection h with h1 h2; exact ⟨h1, h2⟩)
      have hRv2 := Rv.more hRv hnx hne
      have hsh := hRv2.short hok
      have hnd := hRv2.nodup hok.inj
      have hnt : (⟨tf, tt⟩ : Sid2) ∉ sn := fun h => hna (hsn.prev _ _ hnx h)
      refine ZZ ?_
      refine WR ?_
      refine al_ef rfl (Zapp (KA (t := 57) rfl)) ?_
      rintro _ _ ⟨_, cc, hcc, rfl, rfl⟩
      refine WE ?_
      refine WR ?_
      refine al_ef rfl (ef_callp [1, 5] (fun _ => [.arr 77 5 c (gR L2), sB ⟨tf, tt⟩]) false (fun _ => idxTo_v L2 c ⟨tf, tt⟩ (by omega)) rfl .fn rfl (by decide) (by kernel_rfl) rfl ZCH (by decide) ZCH (by simp)) ?_
      rintro F1 H1 ⟨_, _, _, _, ⟨r, rfl, rfl, hr1, hr2⟩, hF, hH⟩
      rw [killF_nil] at hF; (try simp only [List.set_cons_zero, List.set_cons_succ, updH, posOf, lentArr, killF, killO, killV, AV.has, AV.hasL, AV.emb, AV.embL, OB.emb, embB, List.filter_cons, List.filter_nil, List.getElem?_cons_zero, List.getElem?_cons_succ, List.getD_cons_zero, List.getD_cons_succ, List.drop_succ_cons, List.drop_zero, List.drop_nil, List.contains_cons, List.contains_nil, Nat.reduceBEq, Nat.reduceEqDiff, beq_self_eq_true, Bool.or_false, Bool.false_or, Bool.or_true, Bool.true_or, Bool.false_eq_true, Option.map_some, Option.map_none, List.map_cons, List.map_nil, List.cons_append, List.nil_append, List.append_nil, List.length_cons, List.length_nil, Nat.reduceAdd, Nat.reduceLT, Nat.reduceSub, if_true, if_false, Nat.zero_add, Nat.add_zero, Nat.sub_zero, Nat.lt_irrefl, Nat.not_lt_zero, Nat.zero_lt_one, Nat.lt_add_one] at hF); (try simp only [List.set_cons_zero, List.set_cons_succ, updH, posOf, lentArr, killF, killO, killV, AV.has, AV.hasL, AV.emb, AV.embL, OB.emb, embB, List.filter_cons, List.filter_nil, List.getElem?_cons_zero, List.getElem?_cons_succ, List.getD_cons_zero, List.getD_cons_succ, List.drop_succ_cons, List.drop_zero, List.drop_nil, List.contains_cons, List.contains_nil, Nat.reduceBEq, Nat.reduceEqDiff, beq_self_eq_true, Bool.or_false, Bool.false_or, Bool.or_true, Bool.true_or, Bool.false_eq_true, Option.map_some, Option.map_none, List.map_cons, List.map_nil, List.cons_append, List.nil_append, List.append_nil, List.length_cons, List.length_nil, Nat.reduceAdd, Nat.reduceLT, Nat.reduceSub, if_true, if_false, Nat.zero_add, Nat.add_zero, Nat.sub_zero, Nat.lt_irrefl, Nat.not_lt_zero, Nat.zero_lt_one, Nat.lt_add_one] at hH); subst hF; subst hH
      refine WE ?_
      refine wk_of [some 0, some 1, some 2, some 3, some 4] (fun _ => [(0, .c (I r)), (1, .p 0 0 0), (3, .p 2 0 0), (4, .p 3 0 0)]) (fun _ => [.box [.o 1 0 L2.length c], .arr 77 5 c (gR L2), .box [.c (.r (.slice none 0 0) []), .c (B false)], .box [.o 4 0 (D ++ [(⟨tf, tt⟩ : Sid2)]).length cc, .c (B false)], .arr 70 2 cc (sR (D ++ [(⟨tf, tt⟩ : Sid2)]))]) (by decide) (ZNL hE) ZCF ZCH (fun _ => ?_)
      refine ⟨L2.length, by omega, r, tf, tt, ⟨af, at_⟩ :: t, D ++ [⟨tf, tt⟩], cc, L2, rfl, by omega, by omega, hsh, hRv2, by rw [List.reverse_cons, ← hD], hL3, hnt, fun hr => ?_, fun hr => ?_, rfl, rfl⟩
      · obtain ⟨j, rfl, ⟨gj, hgj, hpj⟩, _⟩ := hr2 hr
        exact ⟨j, rfl, gj, hgj, by simpa [frIs] using hpj⟩
      · rw [nxt_none]
        intro hm
        obtain ⟨gj, hgj, ej⟩ := List.mem_map.1 hm
        have h1 := hr1 hr gj
        refine absurd (h1 ?_) (by simp [frIs, ej])
        rw [hL3, leftP_mem]
        refine ⟨hgj, ?_⟩
        rw [ej]
        have h2 := (List.nodup_cons.1 hnd).1
        simpa using ⟨hnt, by simpa using h2⟩
  refine ZZ ?_
  refine WA ?_
  obtain ⟨r, hr, hch⟩ := hRv.end_ (.stop (hi2 (by omega)))
  have hD2 : D = (⟨ff, ft⟩ : Sid2) :: r := hD.trans hr
  refine aret_of (us := [.a [.o 4 0 D.length cd, .c (B false)]]) [some 0, some 1] (fun g' => .a [.c (.r (g' (.o 4 0 D.length cd)) (sR D)), .c (B false)]) (fun _ => [.box [.o 1 0 (Lk).length c], .arr 77 5 c (gR (Lk))]) (.cella rfl (KK (t := 137) rfl) (Cells.box rfl) (by simp) (by (try simp only [nm, putL, Nat.reduceAdd, cellsOf, cvOf]) <;> rfl) .nil) (by decide) (ZNK rfl) (fun _ => .aL (.cons (.frz rfl rfl (by rw [List.drop_zero, List.take_of_length_le (by simp)]) (by simp) rfl) (.cons (.c rfl) .nil))) ZCH (fun g' => ⟨g' (.o 4 0 D.length cd), r, false, Lk, by rw [hD2]; rfl, rfl, hch, ?_⟩)
  rw [hL]
  refine leftP_congr fun g hg => ?_
  have hnn := nxt_none.1 (hi2 (by omega))
  have hgn : g.fr ≠ ⟨af, at_⟩ := fun e => hnn (e ▸ List.mem_map.2 ⟨g, hg, rfl⟩)
  rw [← hr]
  rw [Bool.eq_iff_iff]; simp [hgn]
end Go.Proofs.YtlblimbelfenaaaGreat

/- Plain law: the reference's way through the segments that are left. -/
namespace Go.Proofs.YtlblimbelfenaaaGreat
theorem filter_split {α : Type} {P : α → Bool} : ∀ {S : List α} {i : Nat} {g : α}, (S.filter P)[i]? = some g → ∃ A B, S = A ++ g :: B ∧ A.filter P = (S.filter P).take i
  | [], i, g, h => by simp at h
  | k :: S, i, g, h => by
    by_cases hk : P k = true
    · rw [List.filter_cons_of_pos hk] at h ⊢
      cases i with
      | zero =>
        simp only [List.getElem?_cons_zero, Option.some.injEq] at h
        subst h
        exact ⟨[], S, rfl, by simp⟩
      | succ i =>
        simp only [List.getElem?_cons_succ] at h
        obtain ⟨A, B, e, e2⟩ := filter_split h
        exact ⟨k :: A, B, by rw [e]; rfl, by rw [List.filter_cons_of_pos hk, List.take_succ_cons, e2]⟩
    · rw [List.filter_cons_of_neg hk] at h ⊢
      obtain ⟨A, B, e, e2⟩ := filter_split h
      exact ⟨k :: A, B, by rw [e]; rfl, by rw [List.filter_cons_of_neg hk, e2]⟩
theorem leftP_lt {S : List Seg5} {p q : Sid2 → Bool} {g : Seg5} (hpq : ∀ s, p s = true → q s = true) (hg : g ∈ leftP S p) (hq : q g.fr = true) : (leftP S q).length < (leftP S p).length := by
  have e : leftP S q = (leftP S p).filter fun g => !(q g.fr) := by
    unfold leftP
    rw [List.filter_filter]
    refine List.filter_congr fun k _ => ?_
    cases hp : p k.fr with
    | false => simp
    | true => simp [hpq _ hp]
  rw [e, List.length_filter_lt_length_iff_exists]
  exact ⟨g, hg, by simp [hq]⟩
theorem opnB_iff {S : List Seg5} (hok : SegOk S) {sn : List Sid2} (hsn : Seen (nxt S) sn) {g : Seg5} (hg : g ∈ leftP S sn.contains) : opnB (leftP S sn.contains) g = true ↔ folB S g.fr = false := by
  have hns : g.fr ∉ sn := by simpa using (leftP_mem.1 hg).2
  constructor
  · intro h
    cases hf : folB S g.fr with
    | false => rfl
    | true =>
      obtain ⟨o, ho, e⟩ := folB_iff.1 hf
      have h1 : o ∈ leftP S sn.contains := by
        refine leftP_mem.2 ⟨ho, ?_⟩
        have : o.fr ∉ sn := fun hm => hns (hsn.next o.fr g.fr (e ▸ nxt_at hok.fr ho) hm)
        simpa using this
      unfold opnB at h
      rw [List.any_eq_true.2 ⟨o, h1, by simpa [toIs] using e⟩] at h
      cases h
  · intro h
    unfold opnB
    rw [Bool.not_eq_true', List.any_eq_false]
    intro o ho ht
    have : folB S g.fr = true := folB_iff.2 ⟨o, (leftP_mem.1 ho).1, by simpa [toIs] using ht⟩
    rw [h] at this; cases this
/-- The first open row that is left is taken. -/
theorem ph1_step {S : List Seg5} (hok : SegOk S) {sn : List Sid2} (hsn : Seen (nxt S) sn) {i : Nat} {g : Seg5} (hg : (leftP S sn.contains)[i]? = some g) (hop : opnB (leftP S sn.contains) g = true) (hbef : ∀ j < i, ∀ g', (leftP S sn.contains)[j]? = some g' → opnB (leftP S sn.contains) g' = false) {r : List Sid2} {c : Bool} (hc : Ch (nxt S) g.fr g.fr r c) :
    c = false ∧ Seen (nxt S) (sn ++ g.fr :: r) ∧ ∀ o sn', PassP (nxt S) (folB S) false (S.map (·.fr)) (sn ++ g.fr :: r) o sn' → PassP (nxt S) (folB S) false (S.map (·.fr)) sn ((g.fr :: r, false) :: o) sn' := by
  have hgm := List.mem_of_getElem? hg
  have hns : g.fr ∉ sn := by simpa using (leftP_mem.1 hgm).2
  have hnf := (opnB_iff hok hsn hgm).1 hop
  have hno : ∀ p, nxt S p ≠ some g.fr := fun p hp => by
    rw [(folB_nxt hok).2 ⟨p, hp⟩] at hnf; cases hnf
  have hcf : c = false := by
    cases c with
    | false => rfl
    | true => obtain ⟨p, _, hp⟩ := hc.pred.2 rfl; exact absurd hp (hno p)
  refine ⟨hcf, hsn.take hok.inj hc (.inr hno), fun o sn' h => ?_⟩
  obtain ⟨A, B, e, eA⟩ := filter_split hg
  have el : S.map (·.fr) = A.map (·.fr) ++ g.fr :: B.map (·.fr) := by
    conv => lhs; rw [e]
    rw [List.map_append, List.map_cons]
  have hA : ∀ x ∈ A.map (·.fr), x ∈ sn ∨ ((false : Bool) = false ∧ folB S x = true) := fun x hx => by
    obtain ⟨k, hk, rfl⟩ := List.mem_map.1 hx
    by_cases hks : k.fr ∈ sn
    · exact .inl hks
    · right
      refine ⟨rfl, ?_⟩
      have hkl : k ∈ (leftP S sn.contains).take i := eA ▸ List.mem_filter.2 ⟨hk, by simpa using hks⟩
      obtain ⟨j, hj, ej⟩ := List.getElem_of_mem hkl
      rw [List.length_take] at hj
      have hkj : (leftP S sn.contains)[j]? = some k := by
        rw [List.getElem_take] at ej
        rw [List.getElem?_eq_getElem (by omega), ej]
      have := hbef j (by omega) k hkj
      cases hf : folB S k.fr with
      | true => rfl
      | false => rw [(opnB_iff hok hsn (List.mem_of_getElem? hkj)).2 hf] at this; cases this
  rw [el] at h ⊢
  exact PassP.anew hA hns (fun h => by rw [hnf] at h; cases h.2) hc h
theorem ph1_end {S : List Seg5} (hok : SegOk S) {sn : List Sid2} (hsn : Seen (nxt S) sn) (h : ∀ g ∈ leftP S sn.contains, opnB (leftP S sn.contains) g = false) : (∀ g ∈ S, g.fr ∉ sn → folB S g.fr = true) ∧ PassP (nxt S) (folB S) false (S.map (·.fr)) sn [] sn := by
  have h1 : ∀ g ∈ S, g.fr ∉ sn → folB S g.fr = true := fun g hg hn => by
    have hgm : g ∈ leftP S sn.contains := leftP_mem.2 ⟨hg, by simpa using hn⟩
    cases hf : folB S g.fr with
    | true => rfl
    | false => have := h g hgm; rw [(opnB_iff hok hsn hgm).2 hf] at this; cases this
  refine ⟨h1, PassP.none_ fun f hf => ?_⟩
  obtain ⟨g, hg, rfl⟩ := List.mem_map.1 hf
  by_cases hn : g.fr ∈ sn
  · exact .inl hn
  · exact .inr ⟨rfl, h1 g hg hn⟩
/-- The first row that is left is taken, where all come back. -/
theorem ph2_step {S : List Seg5} (hok : SegOk S) {sn : List Sid2} (hsn : Seen (nxt S) sn) (hf : ∀ g ∈ S, g.fr ∉ sn → folB S g.fr = true) {g : Seg5} (hg : (leftP S sn.contains)[0]? = some g) {r : List Sid2} {c : Bool} (hc : Ch (nxt S) g.fr g.fr r c) :
    c = true ∧ Seen (nxt S) (sn ++ g.fr :: r) ∧ ∀ o sn', PassP (nxt S) (folB S) true (S.map (·.fr)) (sn ++ g.fr :: r) o sn' → PassP (nxt S) (folB S) true (S.map (·.fr)) sn ((g.fr :: r, true) :: o) sn' := by
  have hgm := List.mem_of_getElem? hg
  have hns : g.fr ∉ sn := by simpa using (leftP_mem.1 hgm).2
  have hct : c = true := row_closed hok hsn hf (List.mem_map.2 ⟨g, (leftP_mem.1 hgm).1, rfl⟩) hns hc
  refine ⟨hct, hsn.take hok.inj hc (.inl hct), fun o sn' h => ?_⟩
  obtain ⟨A, B, e, eA⟩ := filter_split hg
  have el : S.map (·.fr) = A.map (·.fr) ++ g.fr :: B.map (·.fr) := by
    conv => lhs; rw [e]
    rw [List.map_append, List.map_cons]
  have hA : ∀ x ∈ A.map (·.fr), x ∈ sn ∨ ((true : Bool) = false ∧ folB S x = true) := fun x hx => by
    obtain ⟨k, hk, rfl⟩ := List.mem_map.1 hx
    by_cases hks : k.fr ∈ sn
    · exact .inl hks
    · have hkl : k ∈ (leftP S sn.contains).take 0 := eA ▸ List.mem_filter.2 ⟨hk, by simpa using hks⟩
      rw [List.take_zero] at hkl; cases hkl
  rw [el] at h ⊢
  exact PassP.anew hA hns (fun h => by cases h.1) hc h
theorem ph2_end {S : List Seg5} {sn : List Sid2} (h : leftP S sn.contains = []) : PassP (nxt S) (folB S) true (S.map (·.fr)) sn [] sn := by
  refine PassP.none_ fun f hf => ?_
  obtain ⟨g, hg, rfl⟩ := List.mem_map.1 hf
  left
  by_cases hn : g.fr ∈ sn
  · exact hn
  · have : g ∈ leftP S sn.contains := leftP_mem.2 ⟨hg, by simpa using hn⟩
    rw [h] at this; cases this
end Go.Proofs.YtlblimbelfenaaaGreat
