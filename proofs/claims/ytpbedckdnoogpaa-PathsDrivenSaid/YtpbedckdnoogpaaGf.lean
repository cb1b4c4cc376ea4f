/- What a path's moves are, by the program and by its document, by value. -/
import Derived.Test.YtpbedckdnoogpaaGd
import Derived.Test.YtpbedckdnoogpaaGe
set_option linter.unusedSimpArgs false
set_option linter.unusedVariables false
namespace Go.Proofs.Ytpbedckdnoogpaa
open Go Go.RowKit
set_option maxRecDepth 100000
def ringP (l : List Pt) (b : Bool) : List Pt := if b = true then l ++ l.take 1 else l
def Pt.sub (p q : Pt) : Pt := ⟨p.x - q.x, p.y - q.y⟩
def difF (l : List Pt) : Nat → List Pt
  | 0 => []
  | k + 1 => difF l k ++ (match l[k]?, l[k + 1]? with
    | some a, some b => if b = a then [] else [b.sub a]
    | _, _ => [])
def difs (l : List Pt) (b : Bool) : List Pt := difF (ringP l b) ((ringP l b).length - 1)
theorem difF_next {l : List Pt} {k : Nat} {a b : Pt} (ha : l[k]? = some a) (hb : l[k + 1]? = some b) : difF l (k + 1) = difF l k ++ if b = a then [] else [b.sub a] := by
  rw [difF, ha, hb]
theorem difF_len (l : List Pt) : ∀ k, (difF l k).length ≤ k
  | 0 => by simp [difF]
  | k + 1 => by
    have := difF_len l k
    rw [difF, List.length_append]
    split
    · split <;> simp <;> omega
    · simp; omega
theorem difF_ok {l : List Pt} (h : ∀ p ∈ l, p.far = false) : ∀ k, ∀ q ∈ difF l k, (-200000 ≤ q.x ∧ q.x ≤ 200000 ∧ -200000 ≤ q.y ∧ q.y ≤ 200000) ∧ ¬ (q.x = 0 ∧ q.y = 0)
  | 0, q, hq => by simp [difF] at hq
  | k + 1, q, hq => by
    rw [difF, List.mem_append] at hq
    rcases hq with hq | hq
    · exact difF_ok h k q hq
    · split at hq
      · rename_i a b ha hb
        split at hq
        · cases hq
        · rename_i hne
          rw [List.mem_singleton.1 hq]
          have h1 := Pt.near (h a (List.mem_of_getElem? ha))
          have h2 := Pt.near (h b (List.mem_of_getElem? hb))
          refine ⟨by simp only [Pt.sub]; omega, fun hz => hne ?_⟩
          simp only [Pt.sub] at hz
          cases a; cases b
          simp only at hz
          congr 1 <;> omega
      · cases hq
theorem ptsF_ok {l : List Pt} {b : Bool} (h : ptsF l b = 0) : 1 ≤ l.length ∧ l.length ≤ 500 ∧ ∀ p ∈ l, p.far = false := by
  unfold ptsF at h
  split at h
  · omega
  · split at h
    · omega
    · split at h
      · omega
      · split at h
        · omega
        · rename_i h1 h2 h3 h4
          refine ⟨by omega, by omega, fun p hp => ?_⟩
          cases hf : p.far
          · rfl
          · exact absurd (List.any_eq_true.2 ⟨p, hp, hf⟩) h4
theorem ringP_ok {l : List Pt} {b : Bool} (h : ptsF l b = 0) : 1 ≤ (ringP l b).length ∧ (ringP l b).length ≤ 501 ∧ ∀ p ∈ ringP l b, p.far = false := by
  obtain ⟨h1, h2, h3⟩ := ptsF_ok h
  unfold ringP
  split
  · refine ⟨by simp; omega, by simp; omega, fun p hp => ?_⟩
    rcases List.mem_append.1 hp with hp | hp
    · exact h3 p hp
    · exact h3 p (List.mem_of_mem_take hp)
  · exact ⟨h1, by omega, h3⟩
theorem difs_ok {l : List Pt} {b : Bool} (h : ptsF l b = 0) : (difs l b).length ≤ 500 ∧ ∀ q ∈ difs l b, (-200000 ≤ q.x ∧ q.x ≤ 200000 ∧ -200000 ≤ q.y ∧ q.y ≤ 200000) ∧ ¬ (q.x = 0 ∧ q.y = 0) := by
  obtain ⟨h1, h2, h3⟩ := ringP_ok h
  exact ⟨by have := difF_len (ringP l b) ((ringP l b).length - 1); unfold difs; omega, difF_ok h3 _⟩
theorem pt_eq {p q : Pt} : p.x = q.x ∧ p.y = q.y ↔ p = q := by cases p; cases q; simp
theorem okPts (l : List Pt) : OkR 2 (l.map Pt.row) := okR_map (f := Pt.row) (sz := 2) (fun p => ⟨rfl, by simp [CV.one, Value.oneCell']⟩) l
theorem pt_flat (l : List Pt) (K : CV → Prop) : ∀ row ∈ l.map Pt.row, ∀ u ∈ row, u.flat ∨ K u := fun row hr u hu => by
  obtain ⟨p, -, rfl⟩ := List.mem_map.1 hr
  simp only [List.mem_cons, List.not_mem_nil, or_false] at hu
  rcases hu with rfl | rfl <;> exact .inl trivial
theorem differences_a (l : List Pt) (v : Value) (b : Bool) (hf : ptsF l b = 0) : ACalls Try.prog 177 [pth v l b] [] fun u H => ∃ v', u = .c (pts_r v' (difs l b)) ∧ H = [] := by
  obtain ⟨q1, q2, q3⟩ := ptsF_ok hf
  obtain ⟨r1, r2, r3⟩ := ringP_ok hf
  have e1 : (l.map Pt.row).length = l.length := by simp
  have hcat : catR [(v, l.map Pt.row), (subV v 0 1 2, ((l.map Pt.row).take 1).drop 0)] = (l ++ l.take 1).map Pt.row := by simp [catR, List.map_append, List.map_take]
  have hcr : ∀ p ∈ [(v, l.map Pt.row), (subV v 0 1 2, ((l.map Pt.row).take 1).drop 0)], OkR 2 p.2 := fun p hp => by
    have h0 := okPts l
    simp only [List.mem_cons, List.not_mem_nil, or_false] at hp
    rcases hp with rfl | rfl
    · exact h0
    · exact fun r hr => h0 r (List.mem_of_mem_take hr)
  have hflat : ∀ {K : CV → Prop}, true = true → ∀ (g : AV → Value) (u : AV) (Hr : List OB), (∃ c : Nat, (catR [(v, l.map Pt.row), (subV v 0 1 2, ((l.map Pt.row).take 1).drop 0)]).length ≤ c ∧ u = .o 0 0 (catR [(v, l.map Pt.row), (subV v 0 1 2, ((l.map Pt.row).take 1).drop 0)]).length c ∧ Hr = [.arr 145 2 c (catR [(v, l.map Pt.row), (subV v 0 1 2, ((l.map Pt.row).take 1).drop 0)])]) → FlatA K u ∧ ∀ o ∈ Hr, FlatO K o := by
    rintro K - g u Hr ⟨c, -, rfl, rfl⟩
    refine ⟨.o, fun o ho => ?_⟩
    rw [List.mem_singleton.1 ho, hcat]
    exact pt_flat _ K
  refine acalls_of (N := 60) Try.func177 rfl rfl (by simp) fun E hE => ?_
  refine WA ?_
  refine WA ?_
  refine WR ?_
  refine al_nil ?_
  refine aseq_n ?_
  refine aw_cut (fun F H => ∃ vr, F = [(3, .c (pts_r vr (ringP l b)))] ∧ H = []) ?_ ?_ wk_aw
  · refine aw_cond rfl (fun hb => ?_) (fun hb => ?_)
    · subst hb
      refine ZR ?_
      iterate 2 refine WX1 ?_
      refine ZA (rd_slicer (l := 0) (h := 1) rfl (KE (t := 94) rfl) rfl (fun r h => (okPts l r h).1) (.inl ⟨rfl, rfl⟩) (.inr ⟨_, _, _, rfl, rfl, rfl⟩) (by omega) (by omega)) ?_
      refine WO ?_
      refine al_ef rfl (ef_call0 true (fun g => concatP_a [(v, l.map Pt.row), (subV v 0 1 2, ((l.map Pt.row).take 1).drop 0)] (g (.o 1 0 2 2)) hcr (by simp) (by simp) (by rw [hcat]; simp; omega)) rfl .fn rfl (by decide) (by kernel_rfl) rfl (fun _ => .cons (.frz rfl rfl rfl rfl rfl) .nil) hflat) ?_
      rintro _ _ ⟨_, _, _, ⟨c0, hc0, rfl, rfl⟩, hF, hH⟩
      (try simp only [nsl, Nat.reduceAdd, Nat.reduceLT, Nat.reduceSub] at hF); (try simp only [nsl, Nat.reduceAdd, Nat.reduceLT, Nat.reduceSub] at hH); subst hF; subst hH
      refine WE ?_
      refine wk_of [] (fun g => [(3, .c (.r (g (.o 2 0 _ c0)) ((ringP l true).map Pt.row)))]) (fun _ => _) (by decide) (ZNL hE) (fun _ => .cons rfl (.frz rfl rfl (by rw [hcat, List.drop_zero, List.take_length]; rfl) (by rw [hcat]; rfl) rfl) .nil) (fun _ => .nil) (fun g => ⟨_, rfl, rfl⟩)
    · subst hb
      refine ZZ ?_
      refine wk_of [] (fun g => [(3, .c (pts_r v (ringP l false)))]) (fun _ => _) (by decide) (ZNL hE) ZCF (fun _ => .nil) (fun g => ⟨_, rfl, rfl⟩)
  rintro F H ⟨vr, rfl, rfl⟩
  obtain ⟨L, hL⟩ : ∃ L, L = ringP l b := ⟨_, rfl⟩
  have hd : difs l b = difF L (L.length - 1) := by rw [hL]; rfl
  rw [hd]
  rw [← hL] at r1 r2 r3 ⊢
  have e2 : (L.map Pt.row).length = L.length := by simp
  refine WA ?_
  refine WA ?_
  refine aw_loopw (fun m F H => ∃ (k c : Nat) (o : List Pt), m + k + 1 = L.length ∧ o = difF L k ∧ F = [(3, .c (pts_r vr L)), (4, .o 0 0 o.length c), (5, .c (I (k + 1 : Nat)))] ∧ H = [.arr 145 2 c (o.map Pt.row)]) ?_ ?_
  · refine wk_of [none] (fun _ => [(3, .c (pts_r vr L)), (4, .o 0 0 ([] : List Pt).length 0), (5, .c (I (0 + 1 : Nat)))]) (fun _ => [.arr 145 2 0 (([] : List Pt).map Pt.row)]) (by decide) (ZNL hE) ZCF ZCH (fun _ => ?_)
    exact ⟨L.length - 1, 0, 0, [], by omega, rfl, rfl, rfl⟩
  rintro m F H ⟨k, c, o, hk, ho, rfl, rfl⟩
  have hol := difF_len L k
  rw [← ho] at hol
  refine WA ?_
  refine aw_if rfl (fun hlt => ?_) (fun hge => ?_)
  · obtain ⟨a, ha⟩ : ∃ x, L[k]? = some x := ⟨_, List.getElem?_eq_getElem (by omega)⟩
    obtain ⟨b', hb⟩ : ∃ x, L[k + 1]? = some x := ⟨_, List.getElem?_eq_getElem (by omega)⟩
    have hra : (L.map Pt.row)[k]? = some [I a.x, I a.y] := by rw [List.getElem?_map, ha]; rfl
    have hrb : (L.map Pt.row)[k + 1]? = some [I b'.x, I b'.y] := by rw [List.getElem?_map, hb]; rfl
    have hna := Pt.near (r3 a (List.mem_of_getElem? ha))
    have hnb := Pt.near (r3 b' (List.mem_of_getElem? hb))
    have hnx := difF_next ha hb
    refine ZZ ?_
    refine aw_regionT [(0, none), (1, none), (2, none), (3, none), (4, none), (5, none), (6, none), (7, none), (8, none), (9, none)] hMixed (by kernel_rfl) ?_
    iterate 6 refine WX2 ?_
    refine ZT rfl (rd_subz (z := (k : Int)) rfl rfl rfl (by omega) (by omega)) ?_
    refine WQ ?_
    refine aw_if rfl (fun hne => ?_) (fun heq => ?_)
    · refine ZZ ?_
      refine aw_regionT [(0, none), (1, none), (2, none), (3, none), (4, none), (5, none), (6, none), (7, none), (8, none), (9, none), (10, none), (11, none), (12, none), (13, none), (14, none), (15, none), (16, none), (17, none), (18, none), (19, none), (20, none), (21, none), (22, none), (23, none), (24, none), (25, none), (26, some [0]), (27, some []), (28, none)] hMixed (by kernel_rfl) ?_
      iterate 8 refine WX2 ?_
      refine ZT rfl (rd_subz (z := (k : Int)) rfl rfl rfl (by omega) (by omega)) ?_
      iterate 11 refine WX2 ?_
      refine ZT rfl (rd_subz (z := (k : Int)) rfl rfl rfl (by omega) (by omega)) ?_
      refine WP ?_
      refine at_ef rfl rfl (Zapp (KA (t := 94) rfl)) ?_
      rintro _ _ ⟨_, cc, hcc, rfl, rfl⟩
      refine ⟨ag_none, ?_⟩
      refine WQ ?_
      refine WA ?_
      refine wk_of [some 0] (fun _ => [(3, .c (pts_r vr L)), (4, .o 0 0 (o ++ [b'.sub a]).length cc), (5, .c (I (k + 1 + 1 : Nat)))]) (fun _ => _) (by decide) (ZNL hE) ZCF ZCH (fun _ => ?_)
      exact ⟨m - 1, by omega, k + 1, cc, o ++ [b'.sub a], by omega, by rw [hnx, ← ho, if_neg (fun e => hne (pt_eq.2 e))], rfl, by rw [List.map_append]; rfl⟩
    · refine ZZ ?_
      refine WA ?_
      refine wk_of [some 0] (fun _ => [(3, .c (pts_r vr L)), (4, .o 0 0 o.length c), (5, .c (I (k + 1 + 1 : Nat)))]) (fun _ => _) (by decide) (ZNL hE) ZCF ZCH (fun _ => ?_)
      exact ⟨m - 1, by omega, k + 1, c, o, by omega, by rw [hnx, ← ho, if_pos (pt_eq.1 (Decidable.not_not.1 heq)), List.append_nil], rfl, rfl⟩
  obtain rfl : k = L.length - 1 := by omega
  subst ho
  refine WA ?_
  exact aret_f1 [] [] rfl rfl rfl rfl (by rw [List.drop_zero, List.take_of_length_le (by simp)]) (by simp) (by decide) (by decide) (ZNK rfl) (fun _ => .nil) (fun v' => ⟨v', rfl, rfl⟩)
end Go.Proofs.Ytpbedckdnoogpaa
