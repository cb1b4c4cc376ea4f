/- Alike: the program's and the reference's, by value. -/
import Derived.Test.YthanangkmjjbaaaGreatDoorQbf
import Derived.Test.YthanangkmjjbaaaGreatDoorQay
import Derived.Test.YthanangkmjjbaaaGreatDoorQar
import Derived.Test.YthanangkmjjbaaaGreatDoorQao
import Derived.Test.YthanangkmjjbaaaGreatDoorQbg
set_option linter.unusedSimpArgs false
set_option linter.unusedVariables false
/- Segments as an own array, their order, one that is left out; contours of the reference in order. -/
-- NEWM
namespace Go.Proofs.YthanangkmjjbaaaGreatDoor
open Go Go.RowKit
set_option maxRecDepth 100000
end Go.Proofs.YthanangkmjjbaaaGreatDoor

/- The reference's closures over segments, by value. -/
-- NEWM
namespace Go.Proofs.YthanangkmjjbaaaGreatDoor
open Go Go.RowKit
set_option maxRecDepth 100000
end Go.Proofs.YthanangkmjjbaaaGreatDoor

/- The reference takes a row of segments out of those that are left, by value. -/
-- NEWM
namespace Go.Proofs.YthanangkmjjbaaaGreatDoor
open Go Go.RowKit
set_option maxRecDepth 100000
/- ## Plain -/
theorem Rv.first {N : Nxt} {f : Sid2} {l : List Sid2} (h : Rv N f l) : l.reverse[0]? = some f := by
  induction h with
  | one => rfl
  | more _ _ _ ih => rw [List.reverse_cons, List.getElem?_append_left (by simp)]; exact ih

/- ## The walk -/
end Go.Proofs.YthanangkmjjbaaaGreatDoor

/- Plain law: the reference's way through the segments that are left. -/
namespace Go.Proofs.YthanangkmjjbaaaGreatDoor
end Go.Proofs.YthanangkmjjbaaaGreatDoor

/- Contours of the reference, by value. -/
-- NEWM
namespace Go.Proofs.YthanangkmjjbaaaGreatDoor
open Go Go.RowKit
set_option maxRecDepth 100000
end Go.Proofs.YthanangkmjjbaaaGreatDoor

/- Small functions of the program and of its document, by value: within a span, first errors, searches and comparisons of lists. -/
namespace Go.Proofs.YthanangkmjjbaaaGreatDoor
open Go Go.RowKit
set_option maxRecDepth 100000
theorem take_nextk {α : Type} {l : List α} {k : Nat} {s : α} (h : l[k]? = some s) : l.take (k + 1) = l.take k ++ [s] := by
  rw [List.take_add_one, h]; rfl
end Go.Proofs.YthanangkmjjbaaaGreatDoor

/- Equal lists of cuts, segments, sides, contours, by value. -/
-- NEWM
namespace Go.Proofs.YthanangkmjjbaaaGreatDoor
open Go Go.RowKit
set_option maxRecDepth 100000
theorem sid_eqk {a b : Sid2} : (a.f = b.f ∧ a.t = b.t) ↔ a = b := (sid_eq a b).symm
theorem eqSd_a (l l' : List Sid2) (v v' : Value) (hl : l.length ≤ 1000000000) (hl' : l'.length ≤ 1000000000) : ACalls Tryz.prog 75 [.c (.r v (l.map Sid2.row)), .c (.r v' (l'.map Sid2.row))] [] fun u H => ∃ b : Bool, u = .c (B b) ∧ H = [] ∧ (b = true ↔ l = l') := by
  have e1 : (l.map Sid2.row).length = l.length := by simp
  have e2 : (l'.map Sid2.row).length = l'.length := by simp
  refine acalls_of (N := 26) Tryz.func75 rfl rfl (by simp) fun E hE => ?_
  refine WA ?_
  refine WA ?_
  refine aw_if rfl (fun hne => ?_) (fun heq => ?_)
  · refine WA ?_
    exact aret_1 [] _ rfl rfl rfl (by decide) (ZNK rfl) (fun _ => .nil) ⟨_, rfl, rfl, by simp; intro e; rw [e] at hne; omega⟩
  refine ZZ ?_
  refine WA ?_
  refine aw_loopw (fun n F H => ∃ k : Nat, n + k = l.length ∧ l.take k = l'.take k ∧ F = [(0, .c (.r v (l.map Sid2.row))), (1, .c (.r v' (l'.map Sid2.row))), (12, .c (I (l.map Sid2.row).length)), (13, .c (I k))] ∧ H = []) ?_ ?_
  · refine wk_of [] (fun _ => [(0, .c (.r v (l.map Sid2.row))), (1, .c (.r v' (l'.map Sid2.row))), (12, .c (I (l.map Sid2.row).length)), (13, .c (I (0 : Nat)))]) (fun _ => _) (by decide) (ZNL hE) ZCF (fun _ => .nil) (fun _ => ?_)
    exact ⟨l.length, 0, by omega, rfl, rfl, rfl⟩
  rintro n F H ⟨k, hk, ht, rfl, rfl⟩
  refine WA ?_
  refine aw_if rfl (fun hlt => ?_) (fun hge => ?_)
  · obtain ⟨s, hs⟩ : ∃ s, l[k]? = some s := ⟨_, List.getElem?_eq_getElem (by omega)⟩
    obtain ⟨s', hs'⟩ : ∃ s', l'[k]? = some s' := ⟨_, List.getElem?_eq_getElem (by omega)⟩
    have hrow : (l.map Sid2.row)[k]? = some (Sid2.row s) := by rw [List.getElem?_map, hs]; rfl
    have hrow' : (l'.map Sid2.row)[k]? = some (Sid2.row s') := by rw [List.getElem?_map, hs']; rfl
    refine WA ?_
    refine ZZ ?_
    refine aw_regionT [(0, none), (1, none), (2, none), (3, none), (4, none), (5, none), (6, none), (7, none), (8, none)] hMixed (by kernel_rfl) ?_
    refine WQ ?_
    refine aw_if rfl (fun hn => ?_) (fun he => ?_)
    · refine WA ?_
      refine aret_1 [] _ rfl rfl rfl (by decide) (ZNK rfl) (fun _ => .nil) ⟨_, rfl, rfl, ?_⟩
      simp only [Bool.false_eq_true, false_iff]
      intro e
      subst e
      rw [hs] at hs'
      exact hn (sid_eqk.2 (Option.some.inj hs'))
    · refine ZZ ?_
      refine WA ?_
      refine wk_of [] (fun _ => [(0, .c (.r v (l.map Sid2.row))), (1, .c (.r v' (l'.map Sid2.row))), (12, .c (I (l.map Sid2.row).length)), (13, .c (I (k + 1 : Nat)))]) (fun _ => _) (by decide) (ZNL hE) ZCF (fun _ => .nil) (fun _ => ?_)
      exact ⟨n - 1, by omega, k + 1, by omega, by rw [take_nextk hs, take_nextk hs', ht, sid_eqk.1 (Decidable.not_not.1 he)], rfl, rfl⟩
  refine WA ?_
  refine aret_1 [] _ rfl rfl rfl (by decide) (ZNK rfl) (fun _ => .nil) ⟨_, rfl, rfl, ?_⟩
  rw [List.take_of_length_le (by omega), List.take_of_length_le (by omega)] at ht
  simp [ht]
theorem take_lastk {α : Type} {l : List α} {k : Nat} {x : α} (h : l[k]? = some x) : l.take (k + 1) = l.take k ++ [x] := by rw [List.take_add_one, h]; rfl
/- ## Contours -/
theorem alike1_v (pv pv' : Value) (ps ps' : List Sid2) (pb pb' : Bool) (hs : ps.length ≤ 1000000) (hs' : ps'.length ≤ 1000000) : ACalls Tryz.prog 74 [.a [.c (.r pv (sR ps)), .c (B pb)], .a [.c (.r pv' (sR ps')), .c (B pb')]] [] fun u H => ∃ b : Bool, u = .c (B b) ∧ H = [] ∧ (b = true ↔ (ps, pb) = (ps', pb')) := by
  refine acalls_of (N := 17) Tryz.func74 rfl rfl (by simp) fun E hE => ?_
  refine WA ?_
  cases pb <;> cases pb'
  · refine WR ?_
    refine G1 rfl ?_
    refine al_ef rfl (ef_call0 false (fun _ => eqSd_a ps ps' pv pv' (by omega) (by omega)) rfl .fn rfl (by decide) (by kernel_rfl) rfl (fun _ => C0 rfl) (by simp)) ?_
    rintro _ _ ⟨_, _, _, ⟨bb, rfl, rfl, hb⟩, hF, hH⟩
    (try simp only [nsl, Nat.reduceAdd, Nat.reduceLT, Nat.reduceSub] at hF); (try simp only [nsl, Nat.reduceAdd, Nat.reduceLT, Nat.reduceSub] at hH); subst hF; subst hH
    refine WE ?_
    exact aret_1 [] _ rfl rfl rfl (by decide) (ZNK rfl) (fun _ => .nil) ⟨_, rfl, rfl, by rw [hb]; simp⟩
  · refine WR ?_
    refine WE ?_
    exact aret_1 [] _ rfl rfl rfl (by decide) (ZNK rfl) (fun _ => .nil) ⟨_, rfl, rfl, by simp⟩
  · refine WR ?_
    refine WE ?_
    exact aret_1 [] _ rfl rfl rfl (by decide) (ZNK rfl) (fun _ => .nil) ⟨_, rfl, rfl, by simp⟩
  · refine WR ?_
    refine G1 rfl ?_
    refine al_ef rfl (ef_call0 false (fun _ => eqSd_a ps ps' pv pv' (by omega) (by omega)) rfl .fn rfl (by decide) (by kernel_rfl) rfl (fun _ => C0 rfl) (by simp)) ?_
    rintro _ _ ⟨_, _, _, ⟨bb, rfl, rfl, hb⟩, hF, hH⟩
    (try simp only [nsl, Nat.reduceAdd, Nat.reduceLT, Nat.reduceSub] at hF); (try simp only [nsl, Nat.reduceAdd, Nat.reduceLT, Nat.reduceSub] at hH); subst hF; subst hH
    refine WE ?_
    exact aret_1 [] _ rfl rfl rfl (by decide) (ZNK rfl) (fun _ => .nil) ⟨_, rfl, rfl, by rw [hb]; simp⟩
set_option maxHeartbeats 2000000 in
theorem eqfC_a (l l' : List (Value × Con)) (v v' : Value) (hl : l.length ≤ 1000000) (hl' : l'.length ≤ 1000000) (hs : ∀ p ∈ l, p.2.1.length ≤ 1000000) (hs' : ∀ p ∈ l', p.2.1.length ≤ 1000000) : ACalls Tryz.prog 73 [.c (.r v (cR l)), .c (.r v' (cR l')), .f (.func 74) []] [] fun u H => ∃ b : Bool, u = .c (B b) ∧ H = [] ∧ (b = true ↔ l.map (fun p => p.2) = l'.map (fun p => p.2)) := by
  have e1 : (cR l).length = l.length := by simp
  have e2 : (cR l').length = l'.length := by simp
  refine acalls_of (N := 32) Tryz.func73 rfl rfl (by simp) fun E hE => ?_
  refine WA ?_
  refine WA ?_
  refine aw_if rfl (fun hne => ?_) (fun heq => ?_)
  · refine WA ?_
    refine aret_1 [] _ rfl rfl rfl (by decide) (ZNK rfl) (fun _ => .nil) ⟨_, rfl, rfl, ?_⟩
    simp only [Bool.false_eq_true, false_iff]
    intro e
    have := congrArg List.length e
    rw [List.length_map, List.length_map] at this
    omega
  refine ZZ ?_
  refine WA ?_
  refine aw_loopw (fun n F H => ∃ k : Nat, n + k = l.length ∧ (l.map fun p => p.2).take k = (l'.map fun p => p.2).take k ∧ F = [(1, .c (.r v' (cR l'))), (2, .f (.func 74) []), (15, .c (.r v (cR l))), (16, .c (I (cR l).length)), (17, .c (I k))] ∧ H = []) ?_ ?_
  · refine wk_of [] (fun _ => [(1, .c (.r v' (cR l'))), (2, .f (.func 74) []), (15, .c (.r v (cR l))), (16, .c (I (cR l).length)), (17, .c (I (0 : Nat)))]) (fun _ => _) (by decide) (ZNL hE) ZCF (fun _ => .nil) (fun _ => ?_)
    exact ⟨l.length, 0, by omega, rfl, rfl, rfl⟩
  rintro n F H ⟨k, hk, ht, rfl, rfl⟩
  refine WA ?_
  refine aw_if rfl (fun hlt => ?_) (fun hge => ?_)
  · obtain ⟨p, hp⟩ : ∃ s, l[k]? = some s := ⟨_, List.getElem?_eq_getElem (by omega)⟩
    obtain ⟨p', hp'⟩ : ∃ s', l'[k]? = some s' := ⟨_, List.getElem?_eq_getElem (by omega)⟩
    have hm := hs p (List.mem_of_getElem? hp)
    have hm' := hs' p' (List.mem_of_getElem? hp')
    obtain ⟨pv, ps, pb⟩ := p
    obtain ⟨pv', ps', pb'⟩ := p'
    simp only at hm hm'
    have hrow : (cR l)[k]? = some [.r pv (sR ps), B pb] := by rw [List.getElem?_map, hp]; rfl
    have hrow' : (cR l')[k]? = some [.r pv' (sR ps'), B pb'] := by rw [List.getElem?_map, hp']; rfl
    have hq : (l.map fun p => p.2)[k]? = some (ps, pb) := by rw [List.getElem?_map, hp]; rfl
    have hq' : (l'.map fun p => p.2)[k]? = some (ps', pb') := by rw [List.getElem?_map, hp']; rfl
    refine WA ?_
    refine WA ?_
    refine WR ?_
    refine al_ef rfl (ef_call0 false (fun _ => alike1_v pv pv' ps ps' pb pb' hm hm') rfl (.clo rfl) rfl (by decide) (by kernel_rfl) rfl (fun _ => C0 rfl) (by simp)) ?_
    rintro _ _ ⟨_, _, _, ⟨bb, rfl, rfl, hb⟩, hF, hH⟩
    (try simp only [nsl, Nat.reduceAdd, Nat.reduceLT, Nat.reduceSub] at hF); (try simp only [nsl, Nat.reduceAdd, Nat.reduceLT, Nat.reduceSub] at hH); subst hF; subst hH
    refine WE ?_
    refine aw_cond rfl (fun hn => ?_) (fun he => ?_)
    · refine WA ?_
      refine aret_1 [] _ rfl rfl rfl (by decide) (ZNK rfl) (fun _ => .nil) ⟨_, rfl, rfl, ?_⟩
      simp only [Bool.false_eq_true, false_iff]
      intro e
      rw [e, hq'] at hq
      have h2 := Option.some.inj hq
      rw [hb.2 h2.symm] at hn
      simp at hn
    · have hbt : bb = true := by simpa using he
      have h2 := hb.1 hbt
      refine ZZ ?_
      refine WA ?_
      refine wk_of [] (fun _ => [(1, .c (.r v' (cR l'))), (2, .f (.func 74) []), (15, .c (.r v (cR l))), (16, .c (I (cR l).length)), (17, .c (I (k + 1 : Nat)))]) (fun _ => _) (by decide) (ZNL hE) ZCF (fun _ => .nil) (fun _ => ?_)
      exact ⟨n - 1, by omega, k + 1, by omega, by rw [take_lastk hq, take_lastk hq', ht, h2], rfl, rfl⟩
  refine WA ?_
  refine aret_1 [] _ rfl rfl rfl (by decide) (ZNK rfl) (fun _ => .nil) ⟨_, rfl, rfl, ?_⟩
  rw [List.take_of_length_le (by simp; omega), List.take_of_length_le (by simp; omega)] at ht
  simp only [ht]
end Go.Proofs.YthanangkmjjbaaaGreatDoor

/- Contours, Ends and Alike: the program's and the reference's, by value. -/
-- NEWM
namespace Go.Proofs.YthanangkmjjbaaaGreatDoor
open Go Go.RowKit
set_option maxRecDepth 100000
/- ## Plain: how many, how long; ends -/
theorem Ch.rv {N : Nxt} {f a : Sid2} {l : List Sid2} {c : Bool} (h : Ch N f a l c) : ∀ t, Rv N f (a :: t) → ∃ b t', Rv N f (b :: t') ∧ t'.length = l.length + t.length := by
  induction h with
  | stop _ => intro t hr; exact ⟨_, t, hr, by simp⟩
  | back _ => intro t hr; exact ⟨_, t, hr, by simp⟩
  | go h1 h2 _ ih =>
    intro t hr
    obtain ⟨b, t', h3, h4⟩ := ih _ (.more hr h1 h2)
    exact ⟨b, t', h3, by simp at h4 ⊢; omega⟩
theorem Ch.short {S : List Seg5} (hok : SegOk S) {f : Sid2} {l : List Sid2} {c : Bool} (h : Ch (nxt S) f f l c) : l.length ≤ S.length := by
  obtain ⟨b, t', hr, e⟩ := h.rv [] .one
  have := hr.short hok
  simp at e
  omega
theorem IsConts.small {S : List Seg5} (hok : SegOk S) {cs : List Con} (h : IsConts S cs) : cs.length ≤ S.length ∧ ∀ k ∈ cs, k.1 ≠ [] ∧ k.1.length ≤ S.length + 1 := by
  obtain ⟨l, o1, s1, o2, s2, h1, h2, h3, h4, h5, h6⟩ := h
  have hm : ∀ k ∈ o1 ++ o2, ∃ f r is, k = (f :: r, is) ∧ f ∈ l ∧ ∃ c, Ch (nxt S) f f r c := fun k hk => by
    rcases List.mem_append.1 hk with hk | hk
    · obtain ⟨f, r, e, _, _, m, hc⟩ := h3.heads.2.1 k hk; exact ⟨f, r, _, e, m, hc⟩
    · obtain ⟨f, r, e, _, _, m, hc⟩ := h4.heads.2.1 k hk; exact ⟨f, r, _, e, m, hc⟩
  have hn : ((o1 ++ o2).map fun k => k.1.head?).Nodup := by
    rw [List.map_append, List.nodup_append]
    refine ⟨h3.heads.2.2, h4.heads.2.2, fun x hx y hy e => ?_⟩
    subst e
    obtain ⟨k, hk, e1⟩ := List.mem_map.1 hx
    obtain ⟨k', hk', e2⟩ := List.mem_map.1 hy
    obtain ⟨f, r, rfl, _, m1, _⟩ := h3.heads.2.1 k hk
    obtain ⟨f', r', rfl, m2, _⟩ := h4.heads.2.1 k' hk'
    rw [← e1] at e2
    simp only [List.head?_cons, Option.some.injEq] at e2
    subst e2
    exact m2 m1
  refine ⟨?_, fun k hk => ?_⟩
  · have h7 := hn.length_le_of_subset (l₂ := l.map some) fun x hx => by
      obtain ⟨k, hk, rfl⟩ := List.mem_map.1 hx
      obtain ⟨f, r, is, rfl, m, _⟩ := hm k hk
      exact List.mem_map.2 ⟨f, m, rfl⟩
    have h8 := h1.length_eq
    have h9 := h5.length_eq
    simp only [List.length_map] at h7 h8
    omega
  · obtain ⟨f, r, is, rfl, _, c, hc⟩ := hm k (h5.subset hk)
    have := hc.short hok
    exact ⟨by simp, by simp only [List.length_cons]; omega⟩
def AlkP (V : List Vec3) (Fs : List Fac3) (z y e : Int) (b : Bool) : Prop := (e ≠ 0 → b = false) ∧ (e = 0 → ∃ cs cs', IsConts (sgL V Fs z) cs ∧ IsConts (sgL V Fs y) cs' ∧ (b = true ↔ cs = cs'))

/- ## The walks -/
end Go.Proofs.YthanangkmjjbaaaGreatDoor

/- Ends and Alike: the program's and the reference's, by value. -/
-- NEWM
namespace Go.Proofs.YthanangkmjjbaaaGreatDoor
open Go Go.RowKit
set_option maxRecDepth 100000
end Go.Proofs.YthanangkmjjbaaaGreatDoor

/- Alike: the program's and the reference's, by value. -/
-- NEWM
namespace Go.Proofs.YthanangkmjjbaaaGreatDoor
open Go Go.RowKit
set_option maxRecDepth 100000
theorem pltF_ok2 {V : List Vec3} {Fs : List Fac3} {z y : Int} (h : pltF V Fs [z, y] = 0) : MOk V Fs ∧ (-100000 ≤ z ∧ z ≤ 100000) ∧ (-100000 ≤ y ∧ y ≤ 100000) := by
  unfold pltF at h
  split at h
  · contradiction
  · rename_i h1
    refine ⟨mok_of (by omega), ?_⟩
    unfold plnF at h
    split at h
    · cases h
    · rename_i h2
      simp [farI] at h2
      omega
theorem con_small {S : List Seg5} (hok : SegOk S) (hS : S.length ≤ 1000) {l : List (Value × Con)} (h : IsConts S (l.map Prod.snd)) : l.length ≤ 1000000 ∧ ∀ p ∈ l, p.2.1.length ≤ 1000000 := by
  obtain ⟨h1, h2⟩ := h.small hok
  rw [List.length_map] at h1
  refine ⟨by omega, fun p hp => ?_⟩
  have := (h2 p.2 (List.mem_map.2 ⟨p, hp, rfl⟩)).2
  omega
set_option maxHeartbeats 2000000 in
theorem alike_p (v w : Value) (V : List Vec3) (Fs : List Fac3) (z y : Int) (hVl : V.length ≤ 1000000) (hFl : Fs.length ≤ 1000000) : ACalls Tryz.prog 28 [mshA v w V Fs, .c (I z), .c (I y)] [] fun u H => ∃ b : Bool, u = .t [.c (B b), .c (I (pltF V Fs [z, y]))] ∧ H = [] ∧ AlkP V Fs z y (pltF V Fs [z, y]) b := by
  refine acalls_of (N := 24) Tryz.func28 rfl rfl (by simp) fun E hE => ?_
  refine WA ?_
  refine WR ?_
  refine al_ef rfl (ef_call0 true (fun g => sfault_v v w (g (.o 1 0 2 2)) V Fs [z, y] hVl hFl (by simp)) rfl .fn rfl (by decide) (by kernel_rfl) rfl (fun _ => .cons (.aL (C0 rfl)) (.cons (.frz rfl rfl rfl rfl rfl) .nil)) (fun _ _ _ _ ⟨hu, hH⟩ => by rw [hu, hH]; exact ⟨.c (.inl trivial), by simp⟩)) ?_
  rintro _ _ ⟨_, _, _, ⟨rfl, rfl⟩, hF, hH⟩
  (try simp only [nsl, Nat.reduceAdd, Nat.reduceLT, Nat.reduceSub] at hF); (try simp only [nsl, Nat.reduceAdd, Nat.reduceLT, Nat.reduceSub] at hH); subst hF; subst hH
  refine WE ?_
  refine WA ?_
  refine aw_if rfl (fun h0 => ?_) (fun h0 => ?_)
  · refine WA ?_
    exact aret_2 [] _ rfl rfl rfl rfl rfl (by decide) (ZNK rfl) (fun _ => .nil) ⟨false, rfl, rfl, fun _ => rfl, fun h => absurd h h0⟩
  obtain ⟨hM, hz, hy⟩ := pltF_ok2 (show pltF V Fs [z, y] = 0 by omega)
  have hlf := hM.lf
  have hSz := sgL_len V Fs z
  have hSy := sgL_len V Fs y
  refine ZZ ?_
  refine aw_regionT [(0, none), (1, none), (3, none), (4, none), (2, some [3, 4]), (5, some []), (6, some []), (7, none), (8, none)] hMixed (by kernel_rfl) ?_
  refine WP ?_
  refine at_ef rfl rfl (ef_call0 false (fun _ => contours_p v w V Fs z hM) rfl .fn rfl (by decide) (by kernel_rfl) rfl (fun _ => C0 rfl) (by simp)) ?_
  rintro _ _ ⟨_, _, _, ⟨qz, lz, rfl, rfl, hconz⟩, hF, hH⟩
  (try simp only [nsl, Nat.reduceAdd, Nat.reduceLT, Nat.reduceSub] at hF); (try simp only [nsl, Nat.reduceAdd, Nat.reduceLT, Nat.reduceSub] at hH); subst hF; subst hH
  refine ⟨ag_cons (by first | exact ag_rd rfl rfl rfl (ZK (KK (t := 29) rfl)) rfl) (ag_cons (by first | exact ag_rd rfl rfl rfl (rd_move rfl rfl) rfl) (ag_none)), ?_⟩
  refine at_ef rfl rfl (ef_call0 false (fun _ => contours_p v w V Fs y hM) rfl .fn rfl (by decide) (by kernel_rfl) rfl (fun _ => C0 rfl) (by simp)) ?_
  rintro _ _ ⟨_, _, _, ⟨qy, ly, rfl, rfl, hcony⟩, hF, hH⟩
  (try simp only [nsl, Nat.reduceAdd, Nat.reduceLT, Nat.reduceSub] at hF); (try simp only [nsl, Nat.reduceAdd, Nat.reduceLT, Nat.reduceSub] at hH); subst hF; subst hH
  refine ⟨ag_none, ?_⟩
  refine at_ef rfl rfl (ef_call0 false (fun _ => eqfC_a lz ly qz qy (con_small (sgL_ok hM) (by omega) hconz).1 (con_small (sgL_ok hM) (by omega) hcony).1 (con_small (sgL_ok hM) (by omega) hconz).2 (con_small (sgL_ok hM) (by omega) hcony).2) rfl .fn rfl (by decide) (by kernel_rfl) rfl (fun _g => .cons (.c rfl) (.cons (.c rfl) (.cons (.fL .nil) .nil))) (by simp)) ?_
  rintro _ _ ⟨_, _, _, ⟨bb, rfl, rfl, hb⟩, hF, hH⟩
  (try simp only [nsl, Nat.reduceAdd, Nat.reduceLT, Nat.reduceSub] at hF); (try simp only [nsl, Nat.reduceAdd, Nat.reduceLT, Nat.reduceSub] at hH); subst hF; subst hH
  refine ⟨ag_none, ?_⟩
  refine WQ ?_
  exact aret_2 [] _ rfl rfl rfl rfl rfl (by decide) (ZNK rfl) (fun _ => .nil) ⟨bb, by rw [show pltF V Fs [z, y] = 0 by omega], rfl, fun h => absurd h h0, fun _ => ⟨_, _, hconz, hcony, hb⟩⟩
end Go.Proofs.YthanangkmjjbaaaGreatDoor
