/- Exact and its faults, of the program and of its document, by value. -/
import Derived.Test.YtdmeohgojdfmoaaGreatQay
import Derived.Test.YtdmeohgojdfmoaaGreatQaz
set_option linter.unusedSimpArgs false
set_option linter.unusedVariables false
/- slices.Grow of nil and slices.Concat, by value. -/
namespace Go.Proofs.YtdmeohgojdfmoaaGreat
open Go Go.RowKit
set_option maxRecDepth 100000
def catR (ps : List (Value × List (List CV))) : List (List CV) := ps.flatMap (·.2)
theorem catR_next {ps : List (Value × List (List CV))} {k : Nat} {p : Value × List (List CV)} (h : ps[k]? = some p) : catR (ps.take (k + 1)) = catR (ps.take k) ++ p.2 := by
  rw [catR, List.take_add_one, h, List.flatMap_append]; simp [catR]
theorem catR_le {ps : List (Value × List (List CV))} (k : Nat) : (catR (ps.take k)).length ≤ (catR ps).length := by
  conv => rhs; rw [← List.take_append_drop k ps]
  rw [catR, catR, List.flatMap_append, List.length_append]; omega
theorem catR_part {ps : List (Value × List (List CV))} {k : Nat} {p : Value × List (List CV)} (h : ps[k]? = some p) : (catR (ps.take k)).length + p.2.length ≤ (catR ps).length := by
  have := catR_le (ps := ps) (k + 1)
  rw [catR_next h, List.length_append] at this
  exact this
theorem growP_a (n : Nat) (hn : n ≤ 1000000) : ACalls Tryz.prog 64 [.c (.r (.slice none 0 0) []), .c (I n)] [] fun u H => ∃ (c : Nat) (rows : List (List CV)), n ≤ c ∧ u = .o 0 0 0 c ∧ H = [.arr 39 2 c rows] := by
  refine acalls_of (N := 27) Tryz.func64 rfl rfl (by simp) fun E hE => ?_
  refine aw_wk (wk_of (K := fun F H => F = [(0, .o 0 0 0 0), (1, .c (I n))] ∧ H = [.arr 39 2 0 []]) [none] (fun _ => [(0, .o 0 0 0 0), (1, .c (I n))]) (fun _ => [.arr 39 2 0 []]) (by decide) (ZNL hE) ZCF ZCH (fun _ => ⟨rfl, rfl⟩)) ?_
  rintro F H ⟨rfl, rfl⟩
  refine WA ?_
  refine WA ?_
  refine aw_cond_f rfl ?_
  refine ZZ ?_
  rcases Nat.eq_zero_or_pos n with h0 | hp
  · refine WA ?_
    refine WA ?_
    refine aw_cond_f rfl ?_
    refine ZZ ?_
    refine WA ?_
    exact aret_o [some 0] (fun _ => [.arr 39 2 0 []]) rfl rfl rfl rfl rfl (by decide) (ZNK rfl) ZCH (fun _ => ⟨0, [], by omega, rfl, rfl⟩)
  · refine WA ?_
    refine WA ?_
    refine aw_cond_t rfl ?_
    refine ZR ?_
    iterate 3 refine WX1 ?_
    refine ZA (rd_slicee (l := 0) (h := 0) rfl (KE (t := 26) rfl) rfl rfl (.inl ⟨rfl, rfl⟩) (.inr ⟨_, _, _, rfl, rfl, rfl⟩) rfl rfl) ?_
    refine WO ?_
    refine al_ef rfl (ef_appz (n := n) rfl rfl (by decide) (KA (t := 26) rfl) Tryz.underlying3 rfl rfl rfl (by omega) (by omega) (by omega) (KZ (t := 39) rfl) rfl rfl) ?_
    rintro _ _ ⟨c2, hc2, rfl, rfl⟩
    iterate 2 refine WX1 ?_
    refine ZA (rd_slice (l := 0) (h := 0) rfl (KE (t := 26) rfl) rfl rfl (.inl ⟨rfl, rfl⟩) (.inr ⟨_, _, _, rfl, rfl, rfl⟩) (by omega) (by omega) (by omega)) ?_
    refine WE ?_
    refine WA ?_
    exact aret_o [some 1] (fun _ => [.arr 39 2 c2 (List.replicate n [I 0, I 0])]) rfl rfl rfl rfl rfl (by decide) (ZNK rfl) ZCH (fun _ => ⟨c2, _, by omega, rfl, rfl⟩)
theorem concatP_a (ps : List (Value × List (List CV))) (v : Value) (hR : ∀ p ∈ ps, OkR 2 p.2) (h1 : 1 ≤ ps.length) (hl : ps.length ≤ 1000) (hn : (catR ps).length ≤ 1000000) :
    ACalls Tryz.prog 47 [.c (.r v (ps.map fun p => [.r p.1 p.2]))] [] fun u H => ∃ (c : Nat), (catR ps).length ≤ c ∧ u = .o 0 0 (catR ps).length c ∧ H = [.arr 39 2 c (catR ps)] := by
  have e1 : (ps.map fun p => [CV.r p.1 p.2]).length = ps.length := by simp
  refine acalls_of (N := 36) Tryz.func47 rfl rfl (by simp) fun E hE => ?_
  refine WA ?_
  refine WA ?_
  refine WA ?_
  refine aw_loopw (fun m F H => ∃ (k : Nat), m + k = ps.length ∧ F = [(0, .c (.r v (ps.map fun p => [.r p.1 p.2]))), (3, .c (I (catR (ps.take k)).length)), (9, .c (.r v (ps.map fun p => [.r p.1 p.2]))), (10, .c (I (ps.map fun p => [CV.r p.1 p.2]).length)), (11, .c (I k))] ∧ H = []) ?_ ?_
  · refine wk_of [] (fun _ => [(0, .c (.r v (ps.map fun p => [.r p.1 p.2]))), (3, .c (I (catR (ps.take 0)).length)), (9, .c (.r v (ps.map fun p => [.r p.1 p.2]))), (10, .c (I (ps.map fun p => [CV.r p.1 p.2]).length)), (11, .c (I (0 : Nat)))]) (fun _ => _) (by decide) (ZNL hE) ZCF (fun _ => .nil) (fun _ => ?_)
    exact ⟨ps.length, 0, by omega, rfl, rfl⟩
  · rintro m F H ⟨k, hk, rfl, rfl⟩
    refine WA ?_
    refine aw_if rfl (fun hlt => ?_) (fun hge => ?_)
    · obtain ⟨p, hp⟩ : ∃ p, ps[k]? = some p := ⟨_, List.getElem?_eq_getElem (by omega)⟩
      have hrow : (ps.map fun p => [CV.r p.1 p.2])[k]? = some [.r p.1 p.2] := by rw [List.getElem?_map, hp]; rfl
      have hpl := catR_part hp
      refine WA ?_
      refine WA ?_
      refine WA ?_
      refine aw_cond_f rfl ?_
      refine ZZ ?_
      refine WA ?_
      refine wk_of [] (fun _ => [(0, .c (.r v (ps.map fun p => [.r p.1 p.2]))), (3, .c (I (((catR (ps.take k)).length : Int) + p.2.length))), (9, .c (.r v (ps.map fun p => [.r p.1 p.2]))), (10, .c (I (ps.map fun p => [CV.r p.1 p.2]).length)), (11, .c (I (k + 1 : Nat)))]) (fun _ => _) (by decide) (ZNL hE) ZCF (fun _ => .nil) (fun _ => ?_)
      exact ⟨m - 1, by omega, k + 1, by omega, by rw [catR_next hp, List.length_append]; rfl, rfl⟩
    obtain rfl : k = ps.length := by omega
    refine ZZ ?_
    have e3 : ((catR (ps.take ps.length)).length : Int) = (catR ps).length := by rw [List.take_length]
    refine aw_wk (wk_of (K := fun F H => F = [(0, .c (.r v (ps.map fun p => [.r p.1 p.2]))), (3, .c (I (catR ps).length))] ∧ H = []) [] (fun _ => [(0, .c (.r v (ps.map fun p => [.r p.1 p.2]))), (3, .c (I (catR ps).length))]) (fun _ => _) (by decide) (ZNL hE) (fun _ => .cons rfl (.c rfl) (.cons rfl (.c (by rw [e3])) .nil)) (fun _ => .nil) (fun _ => ⟨rfl, rfl⟩)) ?_
    rintro F H ⟨rfl, rfl⟩
    refine WR ?_
    refine al_ef rfl (ef_call0 false (fun _ => growP_a (catR ps).length (by omega)) rfl .fn rfl (by decide) (by kernel_rfl) rfl (fun _ => C0 rfl) (by simp)) ?_
    rintro _ _ ⟨_, _, _, ⟨c, rows, hc, rfl, rfl⟩, hF, hH⟩
    (try simp only [nsl, Nat.reduceAdd, Nat.reduceLT, Nat.reduceSub] at hF); (try simp only [nsl, Nat.reduceAdd, Nat.reduceLT, Nat.reduceSub] at hH); subst hF; subst hH
    refine WE ?_
    refine WA ?_
    refine aw_loopw (fun m F H => ∃ (k c : Nat) (rows : List (List CV)), m + k = ps.length ∧ (catR (ps.take k)).length ≤ c ∧ (catR ps).length ≤ c ∧ (catR (ps.take k)).length ≤ rows.length ∧ rows.take (catR (ps.take k)).length = catR (ps.take k) ∧ (1 ≤ k → rows = catR (ps.take k)) ∧ F = [(6, .o 0 0 (catR (ps.take k)).length c), (25, .c (.r v (ps.map fun p => [.r p.1 p.2]))), (26, .c (I (ps.map fun p => [CV.r p.1 p.2]).length)), (27, .c (I k))] ∧ H = [.arr 39 2 c rows]) ?_ ?_
    · refine wk_of [some 0] (fun _ => [(6, .o 0 0 (catR (ps.take 0)).length c), (25, .c (.r v (ps.map fun p => [.r p.1 p.2]))), (26, .c (I (ps.map fun p => [CV.r p.1 p.2]).length)), (27, .c (I (0 : Nat)))]) (fun _ => _) (by decide) (ZNL hE) ZCF ZCH (fun _ => ?_)
      exact ⟨ps.length, 0, c, rows, by omega, by simp [catR], hc, by simp [catR], by simp [catR], by omega, rfl, rfl⟩
    rintro m F H ⟨k, c, rows, hk, hc1, hc, hq, hrt, hre, rfl, rfl⟩
    refine WA ?_
    refine aw_if rfl (fun hlt => ?_) (fun hge => ?_)
    · obtain ⟨p, hp⟩ : ∃ p, ps[k]? = some p := ⟨_, List.getElem?_eq_getElem (by omega)⟩
      have hrow : (ps.map fun p => [CV.r p.1 p.2])[k]? = some [.r p.1 p.2] := by rw [List.getElem?_map, hp]; rfl
      have hpl := catR_part hp
      have hnx := catR_next hp
      refine WA ?_
      refine WR ?_
      refine al_ef rfl (ef_appc (b := 0) (n := (catR (ps.take k)).length) (cap := c) (news := p.2) rfl rfl (by decide) (KA (t := 26) rfl) rfl rfl hq rfl (.ro (fun r h => (hR p (List.mem_of_getElem? hp) r h).1) (fun r h => (hR p (List.mem_of_getElem? hp) r h).2)) (by omega)) ?_
      rintro F1 H1 ⟨_, c2, hc2, hcf, hF, hH⟩
      obtain rfl : c = c2 := (hcf (by omega)).symm
      (try simp only [List.set_cons_zero, List.set_cons_succ, updH, posOf, lentArr, killF, killO, killV, AV.has, AV.hasL, AV.emb, AV.embL, OB.emb, embB, List.filter_cons, List.filter_nil, List.getElem?_cons_zero, List.getElem?_cons_succ, List.getD_cons_zero, List.getD_cons_succ, List.drop_succ_cons, List.drop_zero, List.drop_nil, List.contains_cons, List.contains_nil, Nat.reduceBEq, Nat.reduceEqDiff, beq_self_eq_true, Bool.or_false, Bool.false_or, Bool.or_true, Bool.true_or, Bool.false_eq_true, Option.map_some, Option.map_none, List.map_cons, List.map_nil, List.cons_append, List.nil_append, List.append_nil, List.length_cons, List.length_nil, Nat.reduceAdd, Nat.reduceLT, Nat.reduceSub, if_true, if_false, Nat.zero_add, Nat.add_zero, Nat.sub_zero, Nat.lt_irrefl, Nat.not_lt_zero, Nat.zero_lt_one, Nat.lt_add_one] at hF); (try simp only [List.set_cons_zero, List.set_cons_succ, updH, posOf, lentArr, killF, killO, killV, AV.has, AV.hasL, AV.emb, AV.embL, OB.emb, embB, List.filter_cons, List.filter_nil, List.getElem?_cons_zero, List.getElem?_cons_succ, List.getD_cons_zero, List.getD_cons_succ, List.drop_succ_cons, List.drop_zero, List.drop_nil, List.contains_cons, List.contains_nil, Nat.reduceBEq, Nat.reduceEqDiff, beq_self_eq_true, Bool.or_false, Bool.false_or, Bool.or_true, Bool.true_or, Bool.false_eq_true, Option.map_some, Option.map_none, List.map_cons, List.map_nil, List.cons_append, List.nil_append, List.append_nil, List.length_cons, List.length_nil, Nat.reduceAdd, Nat.reduceLT, Nat.reduceSub, if_true, if_false, Nat.zero_add, Nat.add_zero, Nat.sub_zero, Nat.lt_irrefl, Nat.not_lt_zero, Nat.zero_lt_one, Nat.lt_add_one] at hH); subst hF; subst hH
      refine WE ?_
      refine WA ?_
      refine wk_of [some 0] (fun _ => [(6, .o 0 0 (catR (ps.take (k + 1))).length _), (25, .c (.r v (ps.map fun p => [.r p.1 p.2]))), (26, .c (I (ps.map fun p => [CV.r p.1 p.2]).length)), (27, .c (I (k + 1 : Nat)))]) (fun _ => _) (by decide) (ZNL hE) (fun _ => .cons rfl (.o rfl (by rw [hnx, List.length_append])) (.cons rfl (.c rfl) (.cons rfl (.c rfl) (.cons rfl (.c (by simp)) .nil)))) ZCH (fun _ => ?_)
      exact ⟨m - 1, by omega, k + 1, _, _, by omega, by rw [hnx, List.length_append]; omega, hc, by rw [hnx, hrt]; simp, by rw [hnx, hrt, List.take_length], fun _ => by rw [hnx, hrt], rfl, rfl⟩
    obtain rfl : k = ps.length := by omega
    obtain rfl : rows = catR ps := by have := hre h1; rwa [List.take_length] at this
    refine ZZ ?_
    refine WA ?_
    exact aret_o [some 0] (fun _ => [.arr 39 2 c (catR ps)]) rfl rfl rfl (by rw [List.take_length]) rfl (by decide) (ZNK rfl) ZCH (fun _ => ⟨c, hc, rfl, rfl⟩)
end Go.Proofs.YtdmeohgojdfmoaaGreat

/- What a path's moves are, by the program and by its document, by value. -/
namespace Go.Proofs.YtdmeohgojdfmoaaGreat
open Go Go.RowKit
set_option maxRecDepth 100000
def ringP (l : List Pt) (b : Bool) : List Pt := if b = true then l ++ l.take 1 else l
def Pt.sub (p q : Pt) : Pt := ⟨p.x - q.x, p.y - q.y⟩
def difF (l : List Pt) : Nat → List Pt
  | 0 => []
  | k + 1 => difF l k ++ (match l[k]?, l[k + 1]? with
    | some a, some b => if b = a then [] else [b.sub a]
    | _, _ => [])
def difs (l : List Pt) (b : Bool) : List Pt := difF (ringP l b) ((ringP l b).length - 1)
theorem difF_next {l : List Pt} {k : Nat} {a b : Pt} (ha : l[k]? = some a) (hb : l[k + 1]? = some b) : difF l (k + 1) = difF l k ++ if b = a then [] else [b.sub a] := by
  rw [difF, ha, hb]
theorem difF_len (l : List Pt) : ∀ k, (difF l k).length ≤ k
  | 0 => by simp [difF]
  | k + 1 => by
    have := difF_len l k
    rw [difF, List.length_append]
    split
    · split <;> simp <;> omega
    · simp; omega
theorem difF_ok {l : List Pt} (h : ∀ p ∈ l, p.far = false) : ∀ k, ∀ q ∈ difF l k, (-200000 ≤ q.x ∧ q.x ≤ 200000 ∧ -200000 ≤ q.y ∧ q.y ≤ 200000) ∧ ¬ (q.x = 0 ∧ q.y = 0)
  | 0, q, hq => by simp [difF] at hq
  | k + 1, q, hq => by
    rw [difF, List.mem_append] at hq
    rcases hq with hq | hq
    · exact difF_ok h k q hq
    · split at hq
      · rename_i a b ha hb
        split at hq
        · cases hq
        · rename_i hne
          rw [List.mem_singleton.1 hq]
          have h1 := Pt.near (h a (List.mem_of_getElem? ha))
          have h2 := Pt.near (h b (List.mem_of_getElem? hb))
          refine ⟨by simp only [Pt.sub]; omega, fun hz => hne ?_⟩
          simp only [Pt.sub] at hz
          cases a; cases b
          simp only at hz
          congr 1 <;> omega
      · cases hq
theorem ptsF_ok {l : List Pt} {b : Bool} (h : ptsF l b = 0) : 1 ≤ l.length ∧ l.length ≤ 500 ∧ ∀ p ∈ l, p.far = false := by
  unfold ptsF at h
  split at h
  · omega
  · split at h
    · omega
    · split at h
      · omega
      · split at h
        · omega
        · rename_i h1 h2 h3 h4
          refine ⟨by omega, by omega, fun p hp => ?_⟩
          cases hf : p.far
          · rfl
          · exact absurd (List.any_eq_true.2 ⟨p, hp, hf⟩) h4
theorem ringP_ok {l : List Pt} {b : Bool} (h : ptsF l b = 0) : 1 ≤ (ringP l b).length ∧ (ringP l b).length ≤ 501 ∧ ∀ p ∈ ringP l b, p.far = false := by
  obtain ⟨h1, h2, h3⟩ := ptsF_ok h
  unfold ringP
  split
  · refine ⟨by simp; omega, by simp; omega, fun p hp => ?_⟩
    rcases List.mem_append.1 hp with hp | hp
    · exact h3 p hp
    · exact h3 p (List.mem_of_mem_take hp)
  · exact ⟨h1, by omega, h3⟩
theorem difs_ok {l : List Pt} {b : Bool} (h : ptsF l b = 0) : (difs l b).length ≤ 500 ∧ ∀ q ∈ difs l b, (-200000 ≤ q.x ∧ q.x ≤ 200000 ∧ -200000 ≤ q.y ∧ q.y ≤ 200000) ∧ ¬ (q.x = 0 ∧ q.y = 0) := by
  obtain ⟨h1, h2, h3⟩ := ringP_ok h
  exact ⟨by have := difF_len (ringP l b) ((ringP l b).length - 1); unfold difs; omega, difF_ok h3 _⟩
theorem pt_eq {p q : Pt} : p.x = q.x ∧ p.y = q.y ↔ p = q := by cases p; cases q; simp
theorem okPts (l : List Pt) : OkR 2 (l.map Pt.row) := okR_map (f := Pt.row) (sz := 2) (fun p => ⟨rfl, by simp [CV.one, Value.oneCell']⟩) l
theorem pt_flat (l : List Pt) (K : CV → Prop) : ∀ row ∈ l.map Pt.row, ∀ u ∈ row, u.flat ∨ K u := fun row hr u hu => by
  obtain ⟨p, -, rfl⟩ := List.mem_map.1 hr
  simp only [List.mem_cons, List.not_mem_nil, or_false] at hu
  rcases hu with rfl | rfl <;> exact .inl trivial
theorem differences_a (l : List Pt) (v : Value) (b : Bool) (hf : ptsF l b = 0) : ACalls Tryz.prog 31 [pth v l b] [] fun u H => ∃ v', u = .c (pts_r v' (difs l b)) ∧ H = [] := by
  obtain ⟨q1, q2, q3⟩ := ptsF_ok hf
  obtain ⟨r1, r2, r3⟩ := ringP_ok hf
  have e1 : (l.map Pt.row).length = l.length := by simp
  have hcat : catR [(v, l.map Pt.row), (subV v 0 1 2, ((l.map Pt.row).take 1).drop 0)] = (l ++ l.take 1).map Pt.row := by simp [catR, List.map_append, List.map_take]
  have hcr : ∀ p ∈ [(v, l.map Pt.row), (subV v 0 1 2, ((l.map Pt.row).take 1).drop 0)], OkR 2 p.2 := fun p hp => by
    have h0 := okPts l
    simp only [List.mem_cons, List.not_mem_nil, or_false] at hp
    rcases hp with rfl | rfl
    · exact h0
    · exact fun r hr => h0 r (List.mem_of_mem_take hr)
  have hflat : ∀ {K : CV → Prop}, true = true → ∀ (g : AV → Value) (u : AV) (Hr : List OB), (∃ c : Nat, (catR [(v, l.map Pt.row), (subV v 0 1 2, ((l.map Pt.row).take 1).drop 0)]).length ≤ c ∧ u = .o 0 0 (catR [(v, l.map Pt.row), (subV v 0 1 2, ((l.map Pt.row).take 1).drop 0)]).length c ∧ Hr = [.arr 39 2 c (catR [(v, l.map Pt.row), (subV v 0 1 2, ((l.map Pt.row).take 1).drop 0)])]) → FlatA K u ∧ ∀ o ∈ Hr, FlatO K o := by
    rintro K - g u Hr ⟨c, -, rfl, rfl⟩
    refine ⟨.o, fun o ho => ?_⟩
    rw [List.mem_singleton.1 ho, hcat]
    exact pt_flat _ K
  refine acalls_of (N := 60) Tryz.func31 rfl rfl (by simp) fun E hE => ?_
  refine WA ?_
  refine WA ?_
  refine WR ?_
  refine al_nil ?_
  refine aseq_n ?_
  refine aw_cut (fun F H => ∃ vr, F = [(3, .c (pts_r vr (ringP l b)))] ∧ H = []) ?_ ?_ wk_aw
  · refine aw_cond rfl (fun hb => ?_) (fun hb => ?_)
    · subst hb
      refine ZR ?_
      iterate 2 refine WX1 ?_
      refine ZA (rd_slicer (l := 0) (h := 1) rfl (KE (t := 26) rfl) rfl (fun r h => (okPts l r h).1) (.inl ⟨rfl, rfl⟩) (.inr ⟨_, _, _, rfl, rfl, rfl⟩) (by omega) (by omega)) ?_
      refine WO ?_
      refine al_ef rfl (ef_call0 true (fun g => concatP_a [(v, l.map Pt.row), (subV v 0 1 2, ((l.map Pt.row).take 1).drop 0)] (g (.o 1 0 2 2)) hcr (by simp) (by simp) (by rw [hcat]; simp; omega)) rfl .fn rfl (by decide) (by kernel_rfl) rfl (fun _ => .cons (.frz rfl rfl rfl rfl rfl) .nil) hflat) ?_
      rintro _ _ ⟨_, _, _, ⟨c0, hc0, rfl, rfl⟩, hF, hH⟩
      (try simp only [nsl, Nat.reduceAdd, Nat.reduceLT, Nat.reduceSub] at hF); (try simp only [nsl, Nat.reduceAdd, Nat.reduceLT, Nat.reduceSub] at hH); subst hF; subst hH
      refine WE ?_
      refine wk_of [] (fun g => [(3, .c (.r (g (.o 2 0 _ c0)) ((ringP l true).map Pt.row)))]) (fun _ => _) (by decide) (ZNL hE) (fun _ => .cons rfl (.frz rfl rfl (by rw [hcat, List.drop_zero, List.take_length]; rfl) (by rw [hcat]; rfl) rfl) .nil) (fun _ => .nil) (fun g => ⟨_, rfl, rfl⟩)
    · subst hb
      refine ZZ ?_
      refine wk_of [] (fun g => [(3, .c (pts_r v (ringP l false)))]) (fun _ => _) (by decide) (ZNL hE) ZCF (fun _ => .nil) (fun g => ⟨_, rfl, rfl⟩)
  rintro F H ⟨vr, rfl, rfl⟩
  obtain ⟨L, hL⟩ : ∃ L, L = ringP l b := ⟨_, rfl⟩
  have hd : difs l b = difF L (L.length - 1) := by rw [hL]; rfl
  rw [hd]
  rw [← hL] at r1 r2 r3 ⊢
  have e2 : (L.map Pt.row).length = L.length := by simp
  refine WA ?_
  refine WA ?_
  refine aw_loopw (fun m F H => ∃ (k c : Nat) (o : List Pt), m + k + 1 = L.length ∧ o = difF L k ∧ F = [(3, .c (pts_r vr L)), (4, .o 0 0 o.length c), (5, .c (I (k + 1 : Nat)))] ∧ H = [.arr 39 2 c (o.map Pt.row)]) ?_ ?_
  · refine wk_of [none] (fun _ => [(3, .c (pts_r vr L)), (4, .o 0 0 ([] : List Pt).length 0), (5, .c (I (0 + 1 : Nat)))]) (fun _ => [.arr 39 2 0 (([] : List Pt).map Pt.row)]) (by decide) (ZNL hE) ZCF ZCH (fun _ => ?_)
    exact ⟨L.length - 1, 0, 0, [], by omega, rfl, rfl, rfl⟩
  rintro m F H ⟨k, c, o, hk, ho, rfl, rfl⟩
  have hol := difF_len L k
  rw [← ho] at hol
  refine WA ?_
  refine aw_if rfl (fun hlt => ?_) (fun hge => ?_)
  · obtain ⟨a, ha⟩ : ∃ x, L[k]? = some x := ⟨_, List.getElem?_eq_getElem (by omega)⟩
    obtain ⟨b', hb⟩ : ∃ x, L[k + 1]? = some x := ⟨_, List.getElem?_eq_getElem (by omega)⟩
    have hra : (L.map Pt.row)[k]? = some [I a.x, I a.y] := by rw [List.getElem?_map, ha]; rfl
    have hrb : (L.map Pt.row)[k + 1]? = some [I b'.x, I b'.y] := by rw [List.getElem?_map, hb]; rfl
    have hna := Pt.near (r3 a (List.mem_of_getElem? ha))
    have hnb := Pt.near (r3 b' (List.mem_of_getElem? hb))
    have hnx := difF_next ha hb
    refine ZZ ?_
    refine aw_regionT [(0, none), (1, none), (2, none), (3, none), (4, none), (5, none), (6, none), (7, none), (8, none), (9, none)] hMixed (by kernel_rfl) ?_
    iterate 6 refine WX2 ?_
    refine ZT rfl (rd_subz (z := (k : Int)) rfl rfl rfl (by omega) (by omega)) ?_
    refine WQ ?_
    refine aw_if rfl (fun hne => ?_) (fun heq => ?_)
    · refine ZZ ?_
      refine aw_regionT [(0, none), (1, none), (2, none), (3, none), (4, none), (5, none), (6, none), (7, none), (8, none), (9, none), (10, none), (11, none), (12, none), (13, none), (14, none), (15, none), (16, none), (17, none), (18, none), (19, none), (20, none), (21, none), (22, none), (23, none), (24, none), (25, none), (26, some [0]), (27, some []), (28, none)] hMixed (by kernel_rfl) ?_
      iterate 8 refine WX2 ?_
      refine ZT rfl (rd_subz (z := (k : Int)) rfl rfl rfl (by omega) (by omega)) ?_
      iterate 11 refine WX2 ?_
      refine ZT rfl (rd_subz (z := (k : Int)) rfl rfl rfl (by omega) (by omega)) ?_
      refine WP ?_
      refine at_ef rfl rfl (Zapp (KA (t := 26) rfl)) ?_
      rintro _ _ ⟨_, cc, hcc, rfl, rfl⟩
      refine ⟨ag_none, ?_⟩
      refine WQ ?_
      refine WA ?_
      refine wk_of [some 0] (fun _ => [(3, .c (pts_r vr L)), (4, .o 0 0 (o ++ [b'.sub a]).length cc), (5, .c (I (k + 1 + 1 : Nat)))]) (fun _ => _) (by decide) (ZNL hE) ZCF ZCH (fun _ => ?_)
      exact ⟨m - 1, by omega, k + 1, cc, o ++ [b'.sub a], by omega, by rw [hnx, ← ho, if_neg (fun e => hne (pt_eq.2 e))], rfl, by rw [List.map_append]; rfl⟩
    · refine ZZ ?_
      refine WA ?_
      refine wk_of [some 0] (fun _ => [(3, .c (pts_r vr L)), (4, .o 0 0 o.length c), (5, .c (I (k + 1 + 1 : Nat)))]) (fun _ => _) (by decide) (ZNL hE) ZCF ZCH (fun _ => ?_)
      exact ⟨m - 1, by omega, k + 1, c, o, by omega, by rw [hnx, ← ho, if_pos (pt_eq.1 (Decidable.not_not.1 heq)), List.append_nil], rfl, rfl⟩
  obtain rfl : k = L.length - 1 := by omega
  subst ho
  refine WA ?_
  exact aret_f1 [] [] rfl rfl rfl rfl (by rw [List.drop_zero, List.take_of_length_le (by simp)]) (by simp) (by decide) (by decide) (ZNK rfl) (fun _ => .nil) (fun v' => ⟨v', rfl, rfl⟩)
end Go.Proofs.YtdmeohgojdfmoaaGreat

/- Moves of paths: the document's differences; legs, by value. -/
namespace Go.Proofs.YtdmeohgojdfmoaaGreat
open Go Go.RowKit
set_option maxRecDepth 100000
/-- What is wrong with a path that is driven. -/
def movF (l : List Pt) (b : Bool) (n : Int) : Int := if pathF l b n ≠ 0 then pathF l b n else if (difs l b).length = 0 then 8 else 0
theorem pathF_ok {l : List Pt} {b : Bool} {n : Int} (h : pathF l b n = 0) : ptsF l b = 0 ∧ 1 ≤ n ∧ n ≤ 100000 := by
  unfold pathF at h
  split at h
  · omega
  · unfold spanF at h
    split at h
    · omega
    · omega
theorem movF_ok {l : List Pt} {b : Bool} {n : Int} (h : movF l b n = 0) : pathF l b n = 0 ∧ 1 ≤ (difs l b).length := by
  unfold movF at h
  split at h
  · omega
  · split at h
    · omega
    · omega
theorem moves_a (l : List Pt) (v : Value) (b : Bool) (n : Int) : ACalls Tryz.prog 15 [pth v l b, .c (I n)] [] fun u H => ∃ v', u = .t [.c (pts_r v' (if movF l b n = 0 then difs l b else [])), .c (I (movF l b n))] ∧ H = [] := by
  have e2 : ((difs l b).map Pt.row).length = (difs l b).length := by simp
  refine acalls_of (N := 21) Tryz.func15 rfl rfl (by simp) fun E hE => ?_
  refine WA ?_
  refine WR ?_
  refine al_ef rfl (ef_call0 false (fun _ => pathfault_a l v b) rfl .fn rfl (by decide) (by kernel_rfl) rfl (fun _ => C0 rfl) (by simp)) ?_
  rintro _ _ ⟨_, _, _, ⟨rfl, rfl⟩, hF, hH⟩
  (try simp only [nsl, Nat.reduceAdd, Nat.reduceLT, Nat.reduceSub] at hF); (try simp only [nsl, Nat.reduceAdd, Nat.reduceLT, Nat.reduceSub] at hH); subst hF; subst hH
  refine WE ?_
  refine WA ?_
  refine aw_if rfl (fun h0 => ?_) (fun h0 => ?_)
  · have hm : movF l b n = ptsF l b := by rw [movF, pathF, if_pos h0, if_pos h0]
    refine WA ?_
    exact aret_2 [] _ rfl rfl rfl rfl rfl (by decide) (ZNK rfl) (fun _ => .nil) ⟨_, by rw [hm, if_neg h0]; rfl, rfl⟩
  refine ZZ ?_
  have hp : pathF l b n = spanF n 1 100000 := by rw [pathF, if_neg h0]
  by_cases hn : 1 ≤ n ∧ n ≤ 100000
  · have hs : pathF l b n = 0 := by rw [hp, spanF, if_pos hn]
    refine WR ?_
    refine al_ef rfl (ef_call0 false (fun _ => outs_a n 1 100000) rfl .fn rfl (by decide) (by kernel_rfl) rfl (fun _ => C0 rfl) (by simp)) ?_
    rintro _ _ ⟨_, _, _, ⟨bb, rfl, rfl, ⟨rfl, hb⟩ | ⟨rfl, hb⟩⟩, hF, hH⟩
    rotate_left
    exact absurd hn (by omega)
    (try simp only [nsl, Nat.reduceAdd, Nat.reduceLT, Nat.reduceSub] at hF); (try simp only [nsl, Nat.reduceAdd, Nat.reduceLT, Nat.reduceSub] at hH); subst hF; subst hH
    refine WE ?_
    refine aw_cond_f rfl ?_
    refine ZZ ?_
    refine WR ?_
    refine al_ef rfl (ef_call0 false (fun _ => differences_a l v b (by omega)) rfl .fn rfl (by decide) (by kernel_rfl) rfl (fun _ => C0 rfl) (by simp)) ?_
    rintro _ _ ⟨_, _, _, ⟨vd, rfl, rfl⟩, hF, hH⟩
    (try simp only [nsl, Nat.reduceAdd, Nat.reduceLT, Nat.reduceSub] at hF); (try simp only [nsl, Nat.reduceAdd, Nat.reduceLT, Nat.reduceSub] at hH); subst hF; subst hH
    refine WE ?_
    refine WA ?_
    refine aw_if rfl (fun h1 => ?_) (fun h1 => ?_)
    · have hm : movF l b n = 8 := by rw [movF, if_neg (by omega), if_pos (by omega)]
      refine WA ?_
      exact aret_2 [] _ rfl rfl rfl rfl rfl (by decide) (ZNK rfl) (fun _ => .nil) ⟨_, by rw [hm]; rfl, rfl⟩
    · have hm : movF l b n = 0 := by rw [movF, if_neg (by omega), if_neg (by omega)]
      refine ZZ ?_
      refine WA ?_
      exact aret_2 [] _ rfl rfl rfl rfl rfl (by decide) (ZNK rfl) (fun _ => .nil) ⟨_, by rw [hm, if_pos rfl], rfl⟩
  · have hm : movF l b n = 1 := by rw [movF, hp, spanF, if_neg hn]; rfl
    refine WR ?_
    refine al_ef rfl (ef_call0 false (fun _ => outs_a n 1 100000) rfl .fn rfl (by decide) (by kernel_rfl) rfl (fun _ => C0 rfl) (by simp)) ?_
    rintro _ _ ⟨_, _, _, ⟨bb, rfl, rfl, ⟨rfl, hb⟩ | ⟨rfl, hb⟩⟩, hF, hH⟩
    exact absurd hb hn
    (try simp only [nsl, Nat.reduceAdd, Nat.reduceLT, Nat.reduceSub] at hF); (try simp only [nsl, Nat.reduceAdd, Nat.reduceLT, Nat.reduceSub] at hH); subst hF; subst hH
    refine WE ?_
    refine aw_cond_t rfl ?_
    refine WA ?_
    exact aret_2 [] _ rfl rfl rfl rfl rfl (by decide) (ZNK rfl) (fun _ => .nil) ⟨_, by rw [hm]; rfl, rfl⟩
def legPt (n : Int) (p : Pt) : Leg := ⟨max (max p.x (-p.x)) (max p.y (-p.y)), n⟩
def legsPt (l : List Pt) (b : Bool) (n : Int) : List Leg := (difs l b).map (legPt n)
theorem dist0 (p : Pt) : distF p ⟨0, 0⟩ = max (max p.x (-p.x)) (max p.y (-p.y)) := by simp [distF]
theorem take_map1 {α β : Type} (f : α → β) {l : List α} {k : Nat} {x : α} (h : l[k]? = some x) : (l.take (k + 1)).map f = (l.take k).map f ++ [f x] := by
  rw [take_nextk h, List.map_append]; rfl
theorem legs_a (l : List Pt) (v : Value) (b : Bool) (n : Int) : ACalls Tryz.prog 5 [pth v l b, .c (I n)] [] fun u H => ∃ v', u = .t [.c (legs_r v' (if movF l b n = 0 then legsPt l b n else [])), .c (I (movF l b n))] ∧ H = [] := by
  refine acalls_of (N := 36) Tryz.func5 rfl rfl (by simp) fun E hE => ?_
  refine WA ?_
  refine WR ?_
  refine al_ef rfl (ef_call0 false (fun _ => moves_a l v b n) rfl .fn rfl (by decide) (by kernel_rfl) rfl (fun _ => C0 rfl) (by simp)) ?_
  rintro _ _ ⟨_, _, _, ⟨vd, rfl, rfl⟩, hF, hH⟩
  (try simp only [nsl, Nat.reduceAdd, Nat.reduceLT, Nat.reduceSub] at hF); (try simp only [nsl, Nat.reduceAdd, Nat.reduceLT, Nat.reduceSub] at hH); subst hF; subst hH
  refine WE ?_
  refine WA ?_
  refine aw_if rfl (fun h0 => ?_) (fun h0 => ?_)
  · refine WA ?_
    exact aret_2 [] _ rfl rfl rfl rfl rfl (by decide) (ZNK rfl) (fun _ => .nil) ⟨_, by rw [if_neg h0]; rfl, rfl⟩
  have hm : movF l b n = 0 := by omega
  rw [hm]
  simp only [if_true]
  obtain ⟨hp, hdl⟩ := movF_ok hm
  obtain ⟨d1, d2⟩ := difs_ok (pathF_ok hp).1
  have hld : legsPt l b n = (difs l b).map (legPt n) := rfl
  obtain ⟨D, hD⟩ : ∃ D, D = difs l b := ⟨_, rfl⟩
  rw [hld]
  rw [← hD] at d1 d2 ⊢
  have e2 : (D.map Pt.row).length = D.length := by simp
  refine ZZ ?_
  refine WA ?_
  refine WA ?_
  refine aw_loopw (fun m F H => ∃ (k c : Nat) (o : List Leg), m + k = D.length ∧ o = (D.take k).map (legPt n) ∧ F = [(1, .c (I n)), (8, .o 0 0 o.length c), (20, .c (pts_r vd D)), (21, .c (I (D.map Pt.row).length)), (22, .c (I k))] ∧ H = [.arr 45 2 c (o.map Leg.row)]) ?_ ?_
  · refine wk_of [none] (fun _ => [(1, .c (I n)), (8, .o 0 0 ([] : List Leg).length 0), (20, .c (pts_r vd D)), (21, .c (I (D.map Pt.row).length)), (22, .c (I (0 : Nat)))]) (fun _ => [.arr 45 2 0 (([] : List Leg).map Leg.row)]) (by decide) (ZNL hE) ZCF ZCH (fun _ => ?_)
    exact ⟨D.length, 0, 0, [], by omega, rfl, rfl, rfl⟩
  rintro m F H ⟨k, c, o, hk, ho, rfl, rfl⟩
  have hol : o.length ≤ k := by rw [ho]; simp; omega
  refine WA ?_
  refine aw_if rfl (fun hlt => ?_) (fun hge => ?_)
  · obtain ⟨x, hx⟩ : ∃ x, D[k]? = some x := ⟨_, List.getElem?_eq_getElem (by omega)⟩
    have hrx : (D.map Pt.row)[k]? = some [I x.x, I x.y] := by rw [List.getElem?_map, hx]; rfl
    obtain ⟨hxb, -⟩ := d2 x (List.mem_of_getElem? hx)
    refine WA ?_
    refine WR ?_
    refine al_ef rfl (ef_call0 false (fun _ => dist_a x ⟨0, 0⟩ (by omega) (by omega) (by simp) (by simp)) rfl .fn rfl (by decide) (by kernel_rfl) rfl (fun _ => C0 rfl) (by simp)) ?_
    rintro _ _ ⟨_, _, _, ⟨rfl, rfl⟩, hF, hH⟩
    rw [dist0] at hF
    (try simp only [nsl, Nat.reduceAdd, Nat.reduceLT, Nat.reduceSub] at hF); (try simp only [nsl, Nat.reduceAdd, Nat.reduceLT, Nat.reduceSub] at hH); subst hF; subst hH
    refine WO ?_
    refine al_ef rfl (Zapp (KA (t := 30) rfl)) ?_
    rintro _ _ ⟨_, cc, hcc, rfl, rfl⟩
    refine WE ?_
    refine WA ?_
    refine wk_of [some 0] (fun _ => [(1, .c (I n)), (8, .o 0 0 (o ++ [legPt n x]).length cc), (20, .c (pts_r vd D)), (21, .c (I (D.map Pt.row).length)), (22, .c (I (k + 1 : Nat)))]) (fun _ => _) (by decide) (ZNL hE) ZCF ZCH (fun _ => ?_)
    exact ⟨m - 1, by omega, k + 1, cc, o ++ [legPt n x], by omega, by rw [take_map1 _ hx, ho], rfl, by rw [List.map_append]; rfl⟩
  obtain rfl : k = D.length := by omega
  rw [List.take_length] at ho
  subst ho
  refine ZZ ?_
  refine WA ?_
  exact aret_f2 [] [] rfl rfl rfl rfl rfl rfl (by rw [List.drop_zero, List.take_of_length_le (by simp)]) (by simp) (by decide) (by decide) (ZNK rfl) (fun _ => .nil) (fun v' => ⟨v', rfl, rfl⟩)
end Go.Proofs.YtdmeohgojdfmoaaGreat

/- Exact and its faults, of the program and of its document, by value. -/
namespace Go.Proofs.YtdmeohgojdfmoaaGreat
open Go Go.RowKit
set_option maxRecDepth 100000
def exactV (f t : Int) (x : Leg) (ch : Int) : Int := if oneF x ch ≠ 0 then oneF x ch else if 0 ≤ f ∧ f ≤ x.limit ∧ 0 ≤ t ∧ t ≤ x.limit then (if 2 * ch * x.long < max (f * f - t * t) (-(f * f - t * t)) then 16 else 0) else 1
theorem oneF_ok {x : Leg} {ch : Int} (h : oneF x ch = 0) : x.good ∧ 1 ≤ ch ∧ ch ≤ 10000000 := by
  unfold oneF at h
  split at h
  · omega
  · rename_i hb
    exact ⟨legBad_iff.1 (by simpa using hb), changeF_ok h⟩
end Go.Proofs.YtdmeohgojdfmoaaGreat
