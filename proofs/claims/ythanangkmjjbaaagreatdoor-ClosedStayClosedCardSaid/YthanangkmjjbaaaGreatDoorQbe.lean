/- Plain law: closed meshes have closed contours alone, and each side that is cut is in one of them, once. -/
import Derived.Test.YthanangkmjjbaaaGreatDoorQbd
set_option linter.unusedSimpArgs false
set_option linter.unusedVariables false
/- Plain law: runs of equals, and lists in order. -/
namespace Go.Proofs.YthanangkmjjbaaaGreatDoor
/-- Each run of equals once. -/
def compG {α : Type} [DecidableEq α] : List α → List α
  | [] => []
  | [x] => [x]
  | x :: y :: l => if x = y then compG (y :: l) else x :: compG (y :: l)
theorem compG_snoc {α : Type} [DecidableEq α] {x : α} : ∀ {l : List α} {y : α}, l.getLast? = some y → compG (l ++ [x]) = if y = x then compG l else compG l ++ [x]
  | [z], y, h => by
    simp only [List.getLast?_singleton, Option.some.injEq] at h
    subst h
    simp only [List.cons_append, List.nil_append, compG]
    split <;> simp_all [compG]
  | z :: u :: l, y, h => by
    rw [List.getLast?_cons_cons] at h
    have ih := compG_snoc (x := x) h
    simp only [List.cons_append] at ih ⊢
    simp only [compG]
    split
    · rw [ih]
    · rw [ih]; split <;> simp
theorem takeG_last {α : Type} {l : List α} {k : Nat} {y : α} (h : l[k]? = some y) : (l.take (k + 1)).getLast? = some y := by
  rw [List.take_add_one, h]; simp
theorem compG_step {α : Type} [DecidableEq α] {l : List α} {k : Nat} {x y : α} (hx : l[k + 1]? = some x) (hy : l[k]? = some y) : compG (l.take (k + 2)) = if y = x then compG (l.take (k + 1)) else compG (l.take (k + 1)) ++ [x] := by
  rw [List.take_add_one (i := k + 1), hx]
  exact compG_snoc (takeG_last hy)
theorem compG_len {α : Type} [DecidableEq α] : ∀ l : List α, (compG l).length ≤ l.length
  | [] => Nat.le_refl _
  | [x] => Nat.le_refl _
  | x :: y :: l => by
    have := compG_len (y :: l)
    unfold compG
    split
    · simp only [List.length_cons] at this ⊢; omega
    · simp only [List.length_cons] at this ⊢; omega
theorem compG_mem {α : Type} [DecidableEq α] {x : α} : ∀ {l : List α}, x ∈ compG l ↔ x ∈ l
  | [] => by simp [compG]
  | [y] => by simp [compG]
  | y :: z :: l => by
    unfold compG
    split
    · rename_i h; rw [compG_mem, h]; simp
    · rw [List.mem_cons, compG_mem, List.mem_cons (a := x) (b := y)]
/-- Sides in their order. -/
def leSb (a b : Sid2) : Bool := decide (a.f < b.f) || (decide (a.f = b.f) && decide (a.t ≤ b.t))
theorem leSb_iff {a b : Sid2} : leSb a b = true ↔ leS a b := by unfold leSb leS; simp
def srtS (l : List Sid2) : List Sid2 := l.mergeSort leSb
theorem srtS_perm (l : List Sid2) : (srtS l).Perm l := List.mergeSort_perm _ _
theorem srtS_sorted (l : List Sid2) : (srtS l).Pairwise leS := by
  have := List.pairwise_mergeSort (le := leSb) (fun a b c h1 h2 => by rw [leSb_iff] at *; unfold leS at *; omega) (fun a b => by rw [Bool.or_eq_true, leSb_iff, leSb_iff]; unfold leS; omega) l
  exact this.imp fun h => leSb_iff.1 h
/-- The order is one only. -/
theorem srtS_is {l l' : List Sid2} (hp : l'.Perm l) (hs : l'.Pairwise leS) : l' = srtS l :=
  List.Perm.eq_of_pairwise (le := leS) (fun _ _ _ _ => leS_anti) hs (srtS_sorted l) (hp.trans (srtS_perm l).symm)
def cutL (V : List Vec3) (Fs : List Fac3) (z : Int) : List Cut6 := (compG (srtS (sdL V Fs z))).map (cutV V z)
end Go.Proofs.YthanangkmjjbaaaGreatDoor

/- Plain law: passes over sides, one by one. -/
namespace Go.Proofs.YthanangkmjjbaaaGreatDoor
theorem PassP.append {N : Nxt} {F : Sid2 → Bool} {is : Bool} {a b sn sn1 sn2 : List Sid2} {o o2 : List (List Sid2 × Bool)} (h : PassP N F is a sn o sn1) : PassP N F is b sn1 o2 sn2 → PassP N F is (a ++ b) sn (o ++ o2) sn2 := by
  induction h with
  | nil => intro h2; exact h2
  | skip h _ ih => intro h2; exact .skip h (ih h2)
  | take h1 h2 h3 _ ih => intro h4; exact .take h1 h2 h3 (ih h4)
theorem PassP.skip1 {N : Nxt} {F : Sid2 → Bool} {is : Bool} {l sn0 sn : List Sid2} {o : List (List Sid2 × Bool)} {k : Nat} {f : Sid2} (h : PassP N F is (l.take k) sn0 o sn) (hf : l[k]? = some f) (hs : f ∈ sn ∨ (is = false ∧ F f = true)) : PassP N F is (l.take (k + 1)) sn0 o sn := by
  rw [List.take_add_one, hf]
  have := h.append (.skip hs .nil)
  rwa [List.append_nil] at this
theorem PassP.take1 {N : Nxt} {F : Sid2 → Bool} {is : Bool} {l sn0 sn r : List Sid2} {o : List (List Sid2 × Bool)} {k : Nat} {f : Sid2} {c : Bool} (h : PassP N F is (l.take k) sn0 o sn) (hf : l[k]? = some f) (h1 : f ∉ sn) (h2 : ¬ (is = false ∧ F f = true)) (hc : Ch N f f r c) : PassP N F is (l.take (k + 1)) sn0 (o ++ [(f :: r, is)]) (sn ++ f :: r) := by
  rw [List.take_add_one, hf]
  exact h.append (.take h1 h2 hc .nil)
theorem nxt_snoc {A : List Seg5} {g : Seg5} (h : ((A ++ [g]).map (·.fr)).Nodup) (s : Sid2) : nxt (A ++ [g]) s = if s = g.fr then some g.to else nxt A s := by
  induction A with
  | nil =>
    simp only [List.nil_append, nxt]
    by_cases e : s = g.fr
    · rw [if_pos e, if_pos e.symm]
    · rw [if_neg e, if_neg (fun h => e h.symm)]
  | cons k A ih =>
    simp only [List.cons_append, List.map_cons, List.nodup_cons] at h
    simp only [List.cons_append, nxt]
    rw [ih h.2]
    split
    · rename_i e
      rw [if_neg]
      intro e2
      exact h.1 (by rw [e, e2]; simp)
    · rfl
theorem folB_snoc {A : List Seg5} {g : Seg5} (s : Sid2) : folB (A ++ [g]) s = if s = g.to then true else folB A s := by
  rw [Bool.eq_iff_iff]
  split
  · rename_i e; simp [folB, e]
  · rename_i e
    simp only [folB, List.map_append, List.map_cons, List.map_nil, List.contains_eq_mem, List.mem_append, List.mem_singleton, decide_eq_true_eq, e, or_false]
theorem take_snoc {α : Type} {l : List α} {k : Nat} {x : α} (h : l[k]? = some x) : l.take (k + 1) = l.take k ++ [x] := by rw [List.take_add_one, h]; rfl
theorem nodup_take {S : List Seg5} (h : (S.map (·.fr)).Nodup) (k : Nat) : ((S.take k).map (·.fr)).Nodup := by
  rw [List.map_take]; exact h.sublist (List.take_sublist _ _)
theorem sgL_ok {V : List Vec3} {Fs : List Fac3} {z : Int} (hM : MOk V Fs) : SegOk (sgL V Fs z) := ⟨(sg_nodup hM.dup).1, (sg_nodup hM.dup).2⟩
/-- Both passes, and the order. -/
theorem IsConts.of {S : List Seg5} {cs O : List (List Sid2 × Bool)} {s1 s2 : List Sid2} {o1 o2 : List (List Sid2 × Bool)} (h1 : PassP (nxt S) (folB S) false (srtS (S.map (·.fr))) [] o1 s1) (h2 : PassP (nxt S) (folB S) true (srtS (S.map (·.fr))) s1 o2 s2) (hO : O = o1 ++ o2) (hp : cs.Perm O) (hs : cs.Pairwise leC) : IsConts S cs :=
  ⟨_, o1, s1, o2, s2, srtS_perm _, srtS_sorted _, h1, h2, hO ▸ hp, hs⟩
/-- The first side of a row. -/
def hdS (k : List Sid2 × Bool) : Sid2 := k.1.headD ⟨0, 0⟩
theorem leC_of {a b : List Sid2 × Bool} (h : leS (hdS a) (hdS b)) : leC a b := fun x y hx hy => by
  obtain ⟨a1, a2⟩ := a
  obtain ⟨b1, b2⟩ := b
  cases a1 with
  | nil => cases hx
  | cons x' _ => cases b1 with
    | nil => cases hy
    | cons y' _ =>
      simp only [List.head?_cons, Option.some.injEq] at hx hy
      subst hx; subst hy
      exact h
theorem PassP.ne {N : Nxt} {F : Sid2 → Bool} {is : Bool} {l sn sn' : List Sid2} {o : List (List Sid2 × Bool)} (h : PassP N F is l sn o sn') : ∀ k ∈ o, k.1 ≠ [] := fun k hk => by
  obtain ⟨f, r, rfl, _⟩ := h.heads.2.1 k hk
  simp
end Go.Proofs.YthanangkmjjbaaaGreatDoor

/- Plain law: closed meshes have closed contours alone, and each side that is cut is in one of them, once. -/
namespace Go.Proofs.YthanangkmjjbaaaGreatDoor
/-- Every side's way back is a side too. -/
def ClosedF (Fs : List Fac3) : Prop := ∀ s ∈ Fs.flatMap sds, revS s ∈ Fs.flatMap sds
theorem sg_to {V : List Vec3} {z i : Int} {f : Fac3} {s : Sid2} (hs : s ∈ sds f) (h1 : (vx V s.f).z < z) (h2 : z ≤ (vx V s.t).z) : crF V z f = true ∧ (sgF V z i f).to = s := by
  simp only [sds, List.mem_cons, List.not_mem_nil, or_false] at hs
  simp only [crF, fzs, minL, maxL, Bool.and_eq_true, decide_eq_true_eq, sgF, sds, List.foldl_cons, List.foldl_nil, sgS, upI]
  by_cases ha : z ≤ (vx V f.a).z <;> by_cases hb : z ≤ (vx V f.b).z <;> by_cases hc : z ≤ (vx V f.c).z
  all_goals (rcases hs with rfl | rfl | rfl <;> simp only at h1 h2 <;> first | omega | (simp [ha, hb, hc] <;> omega))
theorem sg_fr {V : List Vec3} {z i : Int} {f : Fac3} {s : Sid2} (hs : s ∈ sds f) (h1 : (vx V s.t).z < z) (h2 : z ≤ (vx V s.f).z) : crF V z f = true ∧ (sgF V z i f).fr = revS s := by
  simp only [sds, List.mem_cons, List.not_mem_nil, or_false] at hs
  simp only [crF, fzs, minL, maxL, Bool.and_eq_true, decide_eq_true_eq, sgF, sds, List.foldl_cons, List.foldl_nil, sgS, upI]
  by_cases ha : z ≤ (vx V f.a).z <;> by_cases hb : z ≤ (vx V f.b).z <;> by_cases hc : z ≤ (vx V f.c).z
  all_goals (rcases hs with rfl | rfl | rfl <;> simp only at h1 h2 <;> first | omega | (simp [ha, hb, hc] <;> omega))
theorem sgL_in {V : List Vec3} {Fs : List Fac3} {z : Int} {f : Fac3} (hf : f ∈ Fs) (hc : crF V z f = true) : ∃ i : Int, sgF V z i f ∈ sgL V Fs z := by
  obtain ⟨j, hj, e⟩ := List.getElem_of_mem hf
  have e2 : fcAt Fs j = f := by
    have := fcAt_get hj
    rw [List.getElem?_eq_getElem hj, e] at this
    injection this with this; exact this.symm
  refine ⟨j, ?_⟩
  unfold sgL
  refine List.mem_map.2 ⟨(j : Int), List.mem_map.2 ⟨j, crN_mem.2 ⟨hj, by rw [e2]; exact hc⟩, rfl⟩, ?_⟩
  rw [sgAt, Int.toNat_natCast, e2]
theorem closed_fol {V : List Vec3} {Fs : List Fac3} {z : Int} (hc : ClosedF Fs) {g : Seg5} (hg : g ∈ sgL V Fs z) : (∃ k ∈ sgL V Fs z, k.to = g.fr) ∧ (∃ k ∈ sgL V Fs z, k.fr = g.to) := by
  obtain ⟨i, hi, hcr, rfl⟩ := sgL_mem hg
  obtain ⟨⟨s, hs, e1, b1, b2⟩, ⟨t, ht, e2, c1, c2⟩, _⟩ := sg_spec (i := i) hcr
  rw [e1, e2]
  constructor
  · obtain ⟨f, hf, hsf⟩ := List.mem_flatMap.1 (hc s (List.mem_flatMap.2 ⟨_, fcAt_mem hi, hs⟩))
    have h1 := fun i => sg_to (i := i) hsf (show (vx V (revS s).f).z < z from b2) (show z ≤ (vx V (revS s).t).z from b1)
    obtain ⟨j, hj⟩ := sgL_in hf (h1 0).1
    exact ⟨_, hj, (h1 j).2⟩
  · obtain ⟨f, hf, hsf⟩ := List.mem_flatMap.1 (hc t (List.mem_flatMap.2 ⟨_, fcAt_mem hi, ht⟩))
    have h1 := fun i => sg_fr (i := i) hsf (show (vx V (revS t).t).z < z from c1) (show z ≤ (vx V (revS t).f).z from c2)
    obtain ⟨j, hj⟩ := sgL_in hf (h1 0).1
    exact ⟨_, hj, (h1 j).2⟩
/-- What a pass saw: what was seen, and its rows. -/
theorem PassP.seen {N : Nxt} {F : Sid2 → Bool} {is : Bool} {l sn sn' : List Sid2} {o : List (List Sid2 × Bool)} (h : PassP N F is l sn o sn') : sn' = sn ++ o.flatMap Prod.fst := by
  induction h with
  | nil => simp
  | skip _ _ ih => exact ih
  | take _ _ _ _ ih => rw [ih]; simp
theorem PassP.all {N : Nxt} {F : Sid2 → Bool} {l sn sn' : List Sid2} {o : List (List Sid2 × Bool)} (h : PassP N F true l sn o sn') : ∀ f ∈ l, f ∈ sn' := by
  induction h with
  | nil => intro f hf; cases hf
  | skip h1 h2 ih =>
    intro f hf
    rcases List.mem_cons.1 hf with rfl | hf
    · rcases h1 with h1 | ⟨h1, _⟩
      · exact h2.heads.1 _ h1
      · cases h1
    · exact ih f hf
  | take _ _ _ h2 ih =>
    intro f hf
    rcases List.mem_cons.1 hf with rfl | hf
    · exact h2.heads.1 _ (List.mem_append_right _ List.mem_cons_self)
    · exact ih f hf
theorem Ch.rvs {N : Nxt} {f a : Sid2} {l : List Sid2} {c : Bool} (h : Ch N f a l c) : ∀ t, Rv N f (a :: t) → ∃ L, Rv N f L ∧ L.reverse = (a :: t).reverse ++ l := by
  induction h with
  | stop _ => intro t hr; exact ⟨_, hr, by simp⟩
  | back _ => intro t hr; exact ⟨_, hr, by simp⟩
  | go h1 h2 _ ih =>
    intro t hr
    obtain ⟨L, h3, h4⟩ := ih _ (.more hr h1 h2)
    exact ⟨L, h3, by rw [h4]; simp⟩
theorem Ch.nodup {S : List Seg5} (hok : SegOk S) {f : Sid2} {l : List Sid2} {c : Bool} (h : Ch (nxt S) f f l c) : (f :: l).Nodup := by
  obtain ⟨L, h1, h2⟩ := h.rvs [] .one
  have h3 := h1.nodup hok.inj
  have h4 : f :: l = L.reverse := by rw [h2]; simp
  rw [h4]
  exact (List.reverse_perm L).nodup_iff.2 h3
/-- In a row, whoever was seen brings its first one along. -/
theorem Ch.back_ {N : Nxt} {f a : Sid2} {l : List Sid2} {c : Bool} {sn : List Sid2} (hs : Seen N sn) (h : Ch N f a l c) : ∀ x ∈ l, x ∈ sn → a ∈ sn := by
  induction h with
  | stop _ => intro x hx; cases hx
  | back _ => intro x hx; cases hx
  | go h1 _ _ ih =>
    intro x hx hm
    rcases List.mem_cons.1 hx with rfl | hx
    · exact hs.prev _ _ h1 hm
    · exact hs.prev _ _ h1 (ih x hx hm)
theorem PassP.nodup {S : List Seg5} (hok : SegOk S) (hfol : ∀ g ∈ S, folB S g.fr = true) {l sn sn' : List Sid2} {o : List (List Sid2 × Bool)} (h : PassP (nxt S) (folB S) true l sn o sn') : (∀ f ∈ l, f ∈ S.map (·.fr)) → Seen (nxt S) sn → sn.Nodup → sn'.Nodup ∧ Seen (nxt S) sn' := by
  induction h with
  | nil => intro _ h1 h2; exact ⟨h2, h1⟩
  | skip _ _ ih => intro h0 h1 h2; exact ih (fun f hf => h0 f (List.mem_cons_of_mem _ hf)) h1 h2
  | take h1 hnn hc hpp ih =>
    rename_i f l sn sn' r o c
    intro h0 hs hn
    have hcc : c = true := row_closed hok hs (fun g hg _ => hfol g hg) (h0 f List.mem_cons_self) h1 hc
    refine ih (fun x hx => h0 x (List.mem_cons_of_mem _ hx)) (hs.take hok.inj hc (.inl hcc)) ?_
    rw [List.nodup_append]
    refine ⟨hn, hc.nodup hok, fun x hx y hy e => ?_⟩
    subst e
    rcases List.mem_cons.1 hy with rfl | hy
    · exact h1 hx
    · exact h1 (hc.back_ hs x hy hx)
theorem Ch.fr {S : List Seg5} {f a : Sid2} {l : List Sid2} {c : Bool} (h : Ch (nxt S) f a l c) : ∀ x ∈ l, ∃ g ∈ S, g.to = x := by
  induction h with
  | stop _ => intro x hx; cases hx
  | back _ => intro x hx; cases hx
  | go h1 _ _ ih =>
    intro x hx
    rcases List.mem_cons.1 hx with rfl | hx
    · obtain ⟨g, hg, _, e⟩ := nxt_some h1; exact ⟨g, hg, e⟩
    · exact ih x hx
/-- All contours are closed, and their sides are those where segments begin, once. -/
theorem closed_conts {S : List Seg5} (hok : SegOk S) (h1 : ∀ g ∈ S, ∃ k ∈ S, k.to = g.fr) (h2 : ∀ g ∈ S, ∃ k ∈ S, k.fr = g.to) {cs : List (List Sid2 × Bool)} (h : IsConts S cs) : (∀ k ∈ cs, k.2 = true) ∧ (cs.flatMap Prod.fst).Perm (S.map (·.fr)) := by
  obtain ⟨l, o1, s1, o2, s2, hl, _, p1, p2, hp, _⟩ := h
  have hfol : ∀ g ∈ S, folB S g.fr = true := fun g hg => folB_iff.2 (h1 g hg)
  have q1 : PassP (nxt S) (folB S) false l [] [] [] := PassP.none_ fun f hf => .inr ⟨rfl, by
    obtain ⟨g, hg, rfl⟩ := List.mem_map.1 (hl.subset hf); exact hfol g hg⟩
  obtain ⟨rfl, rfl⟩ := p1.det q1
  rw [List.nil_append] at hp
  have hin : ∀ f ∈ l, f ∈ S.map (·.fr) := fun f hf => hl.subset hf
  obtain ⟨n1, _⟩ := p2.nodup hok hfol hin (Seen.nil _) List.nodup_nil
  have e1 := p2.seen
  rw [List.nil_append] at e1
  subst e1
  refine ⟨fun k hk => ?_, ?_⟩
  · obtain ⟨f, r, rfl, _⟩ := p2.heads.2.1 k (hp.subset hk); rfl
  · refine (hp.flatMap_right _).trans ?_
    refine (List.perm_ext_iff_of_nodup n1 hok.fr).2 fun x => ⟨fun hx => ?_, fun hx => p2.all x (hl.symm.subset hx)⟩
    obtain ⟨k, hk, hxk⟩ := List.mem_flatMap.1 hx
    obtain ⟨f, r, rfl, _, _, hfl, c, hc⟩ := p2.heads.2.1 k hk
    rcases List.mem_cons.1 hxk with rfl | hxk
    · exact hin _ hfl
    · obtain ⟨g, hg, rfl⟩ := hc.fr x hxk
      obtain ⟨k, hk, e⟩ := h2 g hg
      exact e ▸ List.mem_map.2 ⟨k, hk, rfl⟩
theorem compG_nodup : ∀ {l : List Sid2}, l.Pairwise leS → (compG l).Nodup
  | [], _ => List.nodup_nil
  | [_], _ => by simp [compG]
  | x :: y :: l, h => by
    rw [List.pairwise_cons] at h
    unfold compG
    split
    · exact compG_nodup h.2
    · rename_i hne
      refine List.nodup_cons.2 ⟨fun hm => ?_, compG_nodup h.2⟩
      have hx := compG_mem.1 hm
      have h3 := h.1 y List.mem_cons_self
      rcases List.mem_cons.1 hx with e | hx
      · exact hne e
      · rw [List.pairwise_cons] at h
        exact hne (leS_anti h3 (h.2.1 x hx))
/-- The sides that are cut. -/
theorem closed_cuts {V : List Vec3} {Fs : List Fac3} {z : Int} (hM : MOk V Fs) (hc : ClosedF Fs) {cs : List (List Sid2 × Bool)} (h : IsConts (sgL V Fs z) cs) : (∀ k ∈ cs, k.2 = true) ∧ (cs.flatMap Prod.fst).length = (cutL V Fs z).length ∧ ∀ s ∈ compG (srtS (sdL V Fs z)), s ∈ cs.flatMap Prod.fst := by
  have hok := sgL_ok (z := z) hM
  obtain ⟨k1, k2⟩ := closed_conts hok (fun g hg => (closed_fol hc hg).1) (fun g hg => (closed_fol hc hg).2) h
  have hm : ∀ s, s ∈ compG (srtS (sdL V Fs z)) ↔ s ∈ (sgL V Fs z).map (·.fr) := fun s => by
    rw [compG_mem, (srtS_perm _).mem_iff]
    constructor
    · intro hs
      obtain ⟨g, hg, hs⟩ := List.mem_flatMap.1 hs
      simp only [List.mem_cons, List.not_mem_nil, or_false] at hs
      rcases hs with rfl | rfl
      · exact List.mem_map.2 ⟨g, hg, rfl⟩
      · obtain ⟨k, hk, e⟩ := (closed_fol hc hg).2
        exact e ▸ List.mem_map.2 ⟨k, hk, rfl⟩
    · intro hs
      obtain ⟨g, hg, rfl⟩ := List.mem_map.1 hs
      exact List.mem_flatMap.2 ⟨g, hg, by simp⟩
  have hp : (compG (srtS (sdL V Fs z))).Perm ((sgL V Fs z).map (·.fr)) := (List.perm_ext_iff_of_nodup (compG_nodup (srtS_sorted _)) hok.fr).2 hm
  refine ⟨k1, ?_, fun s hs => k2.symm.subset ((hm s).1 hs)⟩
  rw [cutL, List.length_map, k2.length_eq, hp.length_eq]
end Go.Proofs.YthanangkmjjbaaaGreatDoor
