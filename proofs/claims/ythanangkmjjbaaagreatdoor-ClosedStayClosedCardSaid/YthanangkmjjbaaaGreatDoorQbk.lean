/- Ends and Alike: the program's and the reference's, by value. -/
import Derived.Test.YthanangkmjjbaaaGreatDoorQbi
import Derived.Test.YthanangkmjjbaaaGreatDoorQaz
import Derived.Test.YthanangkmjjbaaaGreatDoorQar
import Derived.Test.YthanangkmjjbaaaGreatDoorQao
import Derived.Test.YthanangkmjjbaaaGreatDoorQbj
set_option linter.unusedSimpArgs false
set_option linter.unusedVariables false
/- Segments as an own array, their order, one that is left out; contours of the reference in order. -/
-- NEWM
namespace Go.Proofs.YthanangkmjjbaaaGreatDoor
open Go Go.RowKit
set_option maxRecDepth 100000
end Go.Proofs.YthanangkmjjbaaaGreatDoor

/- The reference's closures over segments, by value. -/
-- NEWM
namespace Go.Proofs.YthanangkmjjbaaaGreatDoor
open Go Go.RowKit
set_option maxRecDepth 100000
end Go.Proofs.YthanangkmjjbaaaGreatDoor

/- The reference takes a row of segments out of those that are left, by value. -/
-- NEWM
namespace Go.Proofs.YthanangkmjjbaaaGreatDoor
open Go Go.RowKit
set_option maxRecDepth 100000
/- ## Plain -/
theorem Rv.first {N : Nxt} {f : Sid2} {l : List Sid2} (h : Rv N f l) : l.reverse[0]? = some f := by
  induction h with
  | one => rfl
  | more _ _ _ ih => rw [List.reverse_cons, List.getElem?_append_left (by simp)]; exact ih

/- ## The walk -/
end Go.Proofs.YthanangkmjjbaaaGreatDoor

/- Plain law: the reference's way through the segments that are left. -/
namespace Go.Proofs.YthanangkmjjbaaaGreatDoor
end Go.Proofs.YthanangkmjjbaaaGreatDoor

/- Contours of the reference, by value. -/
-- NEWM
namespace Go.Proofs.YthanangkmjjbaaaGreatDoor
open Go Go.RowKit
set_option maxRecDepth 100000
end Go.Proofs.YthanangkmjjbaaaGreatDoor

/- Small functions of the program and of its document, by value: within a span, first errors, searches and comparisons of lists. -/
namespace Go.Proofs.YthanangkmjjbaaaGreatDoor
open Go Go.RowKit
set_option maxRecDepth 100000
end Go.Proofs.YthanangkmjjbaaaGreatDoor

/- Equal lists of cuts, segments, sides, contours, by value. -/
-- NEWM
namespace Go.Proofs.YthanangkmjjbaaaGreatDoor
open Go Go.RowKit
set_option maxRecDepth 100000
abbrev bR (l : List Bool) : List (List CV) := l.map fun b => [B b]
/- ## Contours -/
abbrev sidR (l : List (Value × Con)) : List (List CV) := l.map fun p => [.r p.1 (sR p.2.1)]
abbrev cloR (l : List (Value × Con)) : List (List CV) := l.map fun p => [B p.2.2]
end Go.Proofs.YthanangkmjjbaaaGreatDoor

/- Contours, Ends and Alike: the program's and the reference's, by value. -/
-- NEWM
namespace Go.Proofs.YthanangkmjjbaaaGreatDoor
open Go Go.RowKit
set_option maxRecDepth 100000
/- ## Plain: how many, how long; ends -/
theorem Ch.rv {N : Nxt} {f a : Sid2} {l : List Sid2} {c : Bool} (h : Ch N f a l c) : ∀ t, Rv N f (a :: t) → ∃ b t', Rv N f (b :: t') ∧ t'.length = l.length + t.length := by
  induction h with
  | stop _ => intro t hr; exact ⟨_, t, hr, by simp⟩
  | back _ => intro t hr; exact ⟨_, t, hr, by simp⟩
  | go h1 h2 _ ih =>
    intro t hr
    obtain ⟨b, t', h3, h4⟩ := ih _ (.more hr h1 h2)
    exact ⟨b, t', h3, by simp at h4 ⊢; omega⟩
theorem Ch.short {S : List Seg5} (hok : SegOk S) {f : Sid2} {l : List Sid2} {c : Bool} (h : Ch (nxt S) f f l c) : l.length ≤ S.length := by
  obtain ⟨b, t', hr, e⟩ := h.rv [] .one
  have := hr.short hok
  simp at e
  omega
theorem IsConts.small {S : List Seg5} (hok : SegOk S) {cs : List Con} (h : IsConts S cs) : cs.length ≤ S.length ∧ ∀ k ∈ cs, k.1 ≠ [] ∧ k.1.length ≤ S.length + 1 := by
  obtain ⟨l, o1, s1, o2, s2, h1, h2, h3, h4, h5, h6⟩ := h
  have hm : ∀ k ∈ o1 ++ o2, ∃ f r is, k = (f :: r, is) ∧ f ∈ l ∧ ∃ c, Ch (nxt S) f f r c := fun k hk => by
    rcases List.mem_append.1 hk with hk | hk
    · obtain ⟨f, r, e, _, _, m, hc⟩ := h3.heads.2.1 k hk; exact ⟨f, r, _, e, m, hc⟩
    · obtain ⟨f, r, e, _, _, m, hc⟩ := h4.heads.2.1 k hk; exact ⟨f, r, _, e, m, hc⟩
  have hn : ((o1 ++ o2).map fun k => k.1.head?).Nodup := by
    rw [List.map_append, List.nodup_append]
    refine ⟨h3.heads.2.2, h4.heads.2.2, fun x hx y hy e => ?_⟩
    subst e
    obtain ⟨k, hk, e1⟩ := List.mem_map.1 hx
    obtain ⟨k', hk', e2⟩ := List.mem_map.1 hy
    obtain ⟨f, r, rfl, _, m1, _⟩ := h3.heads.2.1 k hk
    obtain ⟨f', r', rfl, m2, _⟩ := h4.heads.2.1 k' hk'
    rw [← e1] at e2
    simp only [List.head?_cons, Option.some.injEq] at e2
    subst e2
    exact m2 m1
  refine ⟨?_, fun k hk => ?_⟩
  · have h7 := hn.length_le_of_subset (l₂ := l.map some) fun x hx => by
      obtain ⟨k, hk, rfl⟩ := List.mem_map.1 hx
      obtain ⟨f, r, is, rfl, m, _⟩ := hm k hk
      exact List.mem_map.2 ⟨f, m, rfl⟩
    have h8 := h1.length_eq
    have h9 := h5.length_eq
    simp only [List.length_map] at h7 h8
    omega
  · obtain ⟨f, r, is, rfl, _, c, hc⟩ := hm k (h5.subset hk)
    have := hc.short hok
    exact ⟨by simp, by simp only [List.length_cons]; omega⟩
def laS (k : Con) : Sid2 := k.1.getLastD ⟨0, 0⟩
/-- The ends of open contours. -/
def endT (cs : List Con) : List Sid2 := cs.flatMap fun k => if k.2 = true then [] else [hdS k, laS k]
def endL (cs : List Con) : List Sid2 := compG (srtS (endT cs))
theorem endT_next {cs : List Con} {j : Nat} {k : Con} (h : cs[j]? = some k) : endT (cs.take (j + 1)) = endT (cs.take j) ++ (if k.2 = true then [] else [hdS k, laS k]) := by
  unfold endT
  rw [List.take_add_one, h, List.flatMap_append]
  simp
theorem last_at {D : List Sid2} (h : D ≠ []) : D[D.length - 1]? = some (D.getLastD ⟨0, 0⟩) := by
  rw [← List.getLast?_eq_getElem?, List.getLastD_eq_getLast?]
  cases e : D.getLast? with
  | none => exact absurd (List.getLast?_eq_none_iff.1 e) h
  | some x => rfl
theorem head_at {D : List Sid2} (h : D ≠ []) : D[0]? = some (D.headD ⟨0, 0⟩) := by
  cases D with
  | nil => exact absurd rfl h
  | cons x D => rfl
/-- What the program tells: where a mesh or a plane is wrong, nothing. -/
def ConsP (V : List Vec3) (Fs : List Fac3) (z e : Int) (cs : List Con) : Prop := (e ≠ 0 → cs = []) ∧ (e = 0 → IsConts (sgL V Fs z) cs)
def EndsP (V : List Vec3) (Fs : List Fac3) (z e : Int) (L : List Sid2) : Prop := (e ≠ 0 → L = []) ∧ (e = 0 → ∃ cs, IsConts (sgL V Fs z) cs ∧ L = endL cs)
/- ## The walks -/
set_option maxHeartbeats 4000000 in
theorem contoursP_v (v w : Value) (V : List Vec3) (Fs : List Fac3) (z : Int) (hVl : V.length ≤ 1000000) (hFl : Fs.length ≤ 1000000) : ACalls Tryz.prog 20 [mshA v w V Fs, .c (I z)] [] fun u H => ∃ (q1 q2 : Value) (l : List (Value × Con)), u = .t [.c (.r q1 (sidR l)), .c (.r q2 (cloR l)), .c (I (pltF V Fs [z]))] ∧ H = [] ∧ ConsP V Fs z (pltF V Fs [z]) (l.map Prod.snd) := by
  refine acalls_of (N := 40) Tryz.func20 rfl rfl (by simp) fun E hE => ?_
  refine WA ?_
  refine WR ?_
  refine al_ef rfl (ef_call0 true (fun g => sfault_v v w (g (.o 1 0 1 1)) V Fs [z] hVl hFl (by simp)) rfl .fn rfl (by decide) (by kernel_rfl) rfl (fun _ => .cons (.aL (C0 rfl)) (.cons (.frz rfl rfl rfl rfl rfl) .nil)) (fun _ _ _ _ ⟨hu, hH⟩ => by rw [hu, hH]; exact ⟨.c (.inl trivial), by simp⟩)) ?_
  rintro _ _ ⟨_, _, _, ⟨rfl, rfl⟩, hF, hH⟩
  (try simp only [nsl, Nat.reduceAdd, Nat.reduceLT, Nat.reduceSub] at hF); (try simp only [nsl, Nat.reduceAdd, Nat.reduceLT, Nat.reduceSub] at hH); subst hF; subst hH
  refine WE ?_
  refine WA ?_
  refine aw_if rfl (fun h0 => ?_) (fun h0 => ?_)
  · refine WA ?_
    exact aret_of (us := [.c (.r (.slice none 0 0) []), .c (.r (.slice none 0 0) []), .c (I (pltF V Fs [z]))]) [] (fun _ => .t [.c (.r (.slice none 0 0) []), .c (.r (.slice none 0 0) []), .c (I (pltF V Fs [z]))]) (fun _ => []) (.tmp rfl (.tmp rfl (.tmp rfl .nil))) (by decide) (ZNK rfl) (fun _ => .tL (C0 rfl)) (fun _ => .nil) (fun _ => ⟨_, _, [], rfl, rfl, fun _ => rfl, fun h => absurd h h0⟩)
  obtain ⟨hM, hz⟩ := pltF_ok (show pltF V Fs [z] = 0 by omega)
  have hlf := hM.lf
  have hok := sgL_ok (z := z) hM
  have hSl := sgL_len V Fs z
  refine ZZ ?_
  refine WA ?_
  refine WA ?_
  refine WR ?_
  refine al_ef rfl (ef_call0 false (fun _ => contours_p v w V Fs z hM) rfl .fn rfl (by decide) (by kernel_rfl) rfl (fun _ => C0 rfl) (by simp)) ?_
  rintro _ _ ⟨_, _, _, ⟨q, l, rfl, rfl, hcon⟩, hF, hH⟩
  (try simp only [nsl, Nat.reduceAdd, Nat.reduceLT, Nat.reduceSub] at hF); (try simp only [nsl, Nat.reduceAdd, Nat.reduceLT, Nat.reduceSub] at hH); subst hF; subst hH
  refine WE ?_
  have hsm := hcon.small hok
  have hl1000 : l.length ≤ 1000 := by have := hsm.1; rw [List.length_map] at this; omega
  clear hsm
  have e5 : (cR l).length = l.length := by simp
  refine aw_loopw (fun m F H => ∃ (j ca cb : Nat) (A C : List (List CV)), m + j = l.length ∧ A.length = j ∧ C.length = j ∧ A = ((l.take j).map fun p => [CV.r p.1 (sR p.2.1)]) ∧ C = ((l.take j).map fun p => [B p.2.2]) ∧ F = [(8, .o 0 0 A.length ca), (9, .o 1 0 C.length cb), (21, .c (.r q (cR l))), (22, .c (I (cR l).length)), (23, .c (I j))] ∧ H = [.arr 64 1 ca A, .arr 4 1 cb C]) ?_ ?_
  · refine wk_of [none, none] (fun _ => [(8, .o 0 0 0 0), (9, .o 1 0 0 0), (21, .c (.r q (cR l))), (22, .c (I (cR l).length)), (23, .c (I (0 : Nat)))]) (fun _ => [.arr 64 1 0 [], .arr 4 1 0 []]) (by decide) (ZNL hE) ZCF ZCH (fun _ => ?_)
    exact ⟨l.length, 0, 0, 0, [], [], by omega, rfl, rfl, rfl, rfl, rfl, rfl⟩
  rintro m F H ⟨j, ca, cb, A, C, hj, hAl, hCl, hA, hC, rfl, rfl⟩
  refine WA ?_
  refine aw_if rfl (fun hlt => ?_) (fun hge => ?_)
  · obtain ⟨p, hp⟩ : ∃ z, l[j]? = some z := ⟨_, List.getElem?_eq_getElem (by omega)⟩
    have ht := take_snoc hp
    obtain ⟨pv, ps, pb⟩ := p
    have hrow : (cR l)[j]? = some [.r pv (sR ps), B pb] := by rw [List.getElem?_map, hp]; rfl
    refine WA ?_
    refine ZZ ?_
    refine aw_regionM [[(0, none), (1, none), (2, none), (5, none), (6, none), (7, none), (3, some [0, 5, 6, 7]), (4, some [5, 6, 7]), (8, some [0, 1, 2, 5]), (9, some []), (10, none), (11, none)], [(0, none), (1, none), (2, none), (5, none), (6, none), (7, none), (3, some [0, 5, 6, 7]), (8, some [0, 1, 2, 5]), (4, some [5, 6, 7]), (9, some []), (10, none), (11, none)], [(0, none), (1, none), (2, none), (5, none), (6, none), (7, none), (8, some [0, 1, 2, 5]), (3, some [0, 5, 6, 7]), (4, some [5, 6, 7]), (9, some []), (10, none), (11, none)]] hMixed (by kernel_rfl) ?_
    focus
      refine WM ?_
      refine am_two (by rfl) (by rfl) (by rfl) ?_ ?_
      rotate_left
      refine WM ?_
      refine am_ef (i := 4) (by rfl) (by rfl) rfl rfl (Zapp (KA (t := 60) rfl)) ?_
      rintro _ _ ⟨_, cc, hcc, rfl, rfl⟩
      refine ⟨AGX, ?_⟩
      refine am_ef (i := 9) (by rfl) (by rfl) rfl rfl (Zapp (KA (t := 61) rfl)) ?_
      rintro _ _ ⟨_, cc, hcc, rfl, rfl⟩
      refine ⟨AGX, ?_⟩
      refine WN ?_
      rotate_right
      refine WM ?_
      refine am_two (by rfl) (by rfl) (by rfl) ?_ ?_
      rotate_left
      refine WM ?_
      refine am_ef (i := 4) (by rfl) (by rfl) rfl rfl (Zapp (KA (t := 60) rfl)) ?_
      rintro _ _ ⟨_, cc, hcc, rfl, rfl⟩
      refine ⟨AGX, ?_⟩
      refine am_ef (i := 9) (by rfl) (by rfl) rfl rfl (Zapp (KA (t := 61) rfl)) ?_
      rintro _ _ ⟨_, cc, hcc, rfl, rfl⟩
      refine ⟨AGX, ?_⟩
      refine WN ?_
      rotate_right
      refine am_ef (i := 4) (by rfl) (by rfl) rfl rfl (Zapp (KA (t := 60) rfl)) ?_
      rintro _ _ ⟨_, cc, hcc, rfl, rfl⟩
      refine ⟨AGX, ?_⟩
      refine WM ?_
      refine am_ef (i := 9) (by rfl) (by rfl) rfl rfl (Zapp (KA (t := 61) rfl)) ?_
      rintro _ _ ⟨_, cc, hcc, rfl, rfl⟩
      refine ⟨AGX, ?_⟩
      refine WN ?_
    all_goals (refine WA ?_)
    all_goals (refine wk_of [some 0, some 1] (fun _ => [(8, .o 0 0 (A ++ [[CV.r pv (sR ps)]]).length _), (9, .o 1 0 (C ++ [[B pb]]).length _), (21, .c (.r q (cR l))), (22, .c (I (cR l).length)), (23, .c (I (j + 1 : Nat)))]) (fun _ => _) (by decide) (ZNL hE) ZCF ZCH (fun _ => ?_))
    all_goals (exact ⟨m - 1, by omega, j + 1, _, _, A ++ [[CV.r pv (sR ps)]], C ++ [[B pb]], by omega, by simp; omega, by simp; omega, by rw [ht, hA]; simp, by rw [ht, hC]; simp, rfl, rfl⟩)
  obtain rfl : l.length = j := by omega
  rw [List.take_of_length_le (Nat.le_refl _)] at hA hC
  refine ZZ ?_
  refine WA ?_
  exact aret_of (us := [.o 0 0 A.length ca, .o 1 0 C.length cb, .c (I 0)]) [] (fun g => .t [.c (.r (g (.o 0 0 A.length ca)) A), .c (.r (g (.o 1 0 C.length cb)) C), .c (I 0)]) (fun _ => []) (.tmp rfl (.tmp rfl (.tmp rfl .nil))) (by decide) (ZNK rfl) (fun _ => .tL (.cons (.frz rfl rfl (by rw [List.drop_zero, List.take_length]) rfl rfl) (.cons (.frz rfl rfl (by rw [List.drop_zero, List.take_length]) rfl rfl) (.cons (.c rfl) .nil)))) (fun _ => .nil) (fun g => ⟨_, _, l, by rw [hA, hC, show pltF V Fs [z] = 0 by omega], rfl, fun h => absurd h h0, fun _ => hcon⟩)
end Go.Proofs.YthanangkmjjbaaaGreatDoor

/- Ends and Alike: the program's and the reference's, by value. -/
-- NEWM
namespace Go.Proofs.YthanangkmjjbaaaGreatDoor
open Go Go.RowKit
set_option maxRecDepth 100000
set_option maxHeartbeats 4000000 in
theorem ends_p (v w : Value) (V : List Vec3) (Fs : List Fac3) (z : Int) (hVl : V.length ≤ 1000000) (hFl : Fs.length ≤ 1000000) : ACalls Tryz.prog 21 [mshA v w V Fs, .c (I z)] [] fun u H => ∃ (q : Value) (L : List Sid2), u = .t [.c (.r q (sR L)), .c (I (pltF V Fs [z]))] ∧ H = [] ∧ EndsP V Fs z (pltF V Fs [z]) L := by
  refine acalls_of (N := 48) Tryz.func21 rfl rfl (by simp) fun E hE => ?_
  refine WA ?_
  refine WR ?_
  refine al_ef rfl (ef_call0 true (fun g => sfault_v v w (g (.o 1 0 1 1)) V Fs [z] hVl hFl (by simp)) rfl .fn rfl (by decide) (by kernel_rfl) rfl (fun _ => .cons (.aL (C0 rfl)) (.cons (.frz rfl rfl rfl rfl rfl) .nil)) (fun _ _ _ _ ⟨hu, hH⟩ => by rw [hu, hH]; exact ⟨.c (.inl trivial), by simp⟩)) ?_
  rintro _ _ ⟨_, _, _, ⟨rfl, rfl⟩, hF, hH⟩
  (try simp only [nsl, Nat.reduceAdd, Nat.reduceLT, Nat.reduceSub] at hF); (try simp only [nsl, Nat.reduceAdd, Nat.reduceLT, Nat.reduceSub] at hH); subst hF; subst hH
  refine WE ?_
  refine WA ?_
  refine aw_if rfl (fun h0 => ?_) (fun h0 => ?_)
  · refine WA ?_
    exact aret_2 [] _ rfl rfl rfl rfl rfl (by decide) (ZNK rfl) (fun _ => .nil) ⟨_, [], rfl, rfl, fun _ => rfl, fun h => absurd h h0⟩
  obtain ⟨hM, hz⟩ := pltF_ok (show pltF V Fs [z] = 0 by omega)
  have hlf := hM.lf
  have hok := sgL_ok (z := z) hM
  have hSl := sgL_len V Fs z
  refine ZZ ?_
  refine WA ?_
  refine WR ?_
  refine al_ef rfl (ef_call0 false (fun _ => contours_p v w V Fs z hM) rfl .fn rfl (by decide) (by kernel_rfl) rfl (fun _ => C0 rfl) (by simp)) ?_
  rintro _ _ ⟨_, _, _, ⟨q, l, rfl, rfl, hcon⟩, hF, hH⟩
  (try simp only [nsl, Nat.reduceAdd, Nat.reduceLT, Nat.reduceSub] at hF); (try simp only [nsl, Nat.reduceAdd, Nat.reduceLT, Nat.reduceSub] at hH); subst hF; subst hH
  refine WE ?_
  have hsm := hcon.small hok
  have hl1000 : l.length ≤ 1000 := by have := hsm.1; rw [List.length_map] at this; omega
  have hne : ∀ p ∈ l, p.2.1 ≠ [] ∧ p.2.1.length ≤ 1001 := fun p hp => by
    obtain ⟨h1, h2⟩ := hsm.2 p.2 (List.mem_map.2 ⟨p, hp, rfl⟩)
    exact ⟨h1, by omega⟩
  clear hsm
  have e5 : (cR l).length = l.length := by simp
  refine aw_loopw (fun m F H => ∃ (j c : Nat) (L : List Sid2), m + j = l.length ∧ L.length ≤ 2 * j ∧ L.length ≤ c ∧ L = endT ((l.map Prod.snd).take j) ∧ F = [(7, .o 0 0 L.length c), (19, .c (.r q (cR l))), (20, .c (I (cR l).length)), (21, .c (I j))] ∧ H = [.arr 54 2 c (sR L)]) ?_ ?_
  · refine wk_of [none] (fun _ => [(7, .o 0 0 0 0), (19, .c (.r q (cR l))), (20, .c (I (cR l).length)), (21, .c (I (0 : Nat)))]) (fun _ => [.arr 54 2 0 []]) (by decide) (ZNL hE) ZCF ZCH (fun _ => ?_)
    exact ⟨l.length, 0, 0, [], by omega, by simp, by simp, rfl, rfl, rfl⟩
  rintro m F H ⟨j, c, L, hj, hL2, hcap, hLe, rfl, rfl⟩
  refine WA ?_
  refine aw_if rfl (fun hlt => ?_) (fun hge => ?_)
  · obtain ⟨p, hp⟩ : ∃ z, l[j]? = some z := ⟨_, List.getElem?_eq_getElem (by omega)⟩
    obtain ⟨hne0, hpl⟩ := hne p (List.mem_of_getElem? hp)
    have hnx := endT_next (cs := l.map Prod.snd) (j := j) (k := p.2) (by rw [List.getElem?_map, hp]; rfl)
    rw [← hLe] at hnx
    have hla := last_at hne0
    have hh0 := head_at hne0
    obtain ⟨pv, ps, pb⟩ := p
    simp only at hne0 hpl hla hh0
    have hgl : (ps.getLastD ⟨0, 0⟩) = laS (ps, pb) := rfl
    have hgh : (ps.headD ⟨0, 0⟩) = hdS (ps, pb) := rfl
    rw [hgl] at hla
    rw [hgh] at hh0
    have hpos : 1 ≤ ps.length := List.length_pos_iff.2 hne0
    have eS : (sR ps).length = ps.length := by simp
    simp only at hnx
    have hrow : (cR l)[j]? = some [.r pv (sR ps), B pb] := by rw [List.getElem?_map, hp]; rfl
    refine WA ?_
    cases pb with
    | true =>
      have hnx : endT ((l.map Prod.snd).take (j + 1)) = L := by rw [hnx]; simp
      refine WA ?_
      refine aw_cond_f rfl ?_
      refine ZZ ?_
      refine WA ?_
      refine wk_of [some 0] (fun _ => [(7, .o 0 0 L.length c), (19, .c (.r q (cR l))), (20, .c (I (cR l).length)), (21, .c (I (j + 1 : Nat)))]) (fun _ => _) (by decide) (ZNL hE) ZCF ZCH (fun _ => ?_)
      exact ⟨m - 1, by omega, j + 1, c, L, by omega, by omega, hcap, hnx.symm, rfl, rfl⟩
    | false =>
      have hnx : endT ((l.map Prod.snd).take (j + 1)) = L ++ [hdS (ps, false), laS (ps, false)] := by rw [hnx]; rfl
      generalize hdS (ps, false) = h0 at hh0 hnx
      generalize laS (ps, false) = hL at hla hnx
      obtain ⟨hf, ht⟩ := h0
      obtain ⟨lf, lt⟩ := hL
      have hd0 : (sR ps)[0]? = some [I hf, I ht] := by rw [List.getElem?_map, hh0]; rfl
      have hdL : (sR ps)[ps.length - 1]? = some [I lf, I lt] := by rw [List.getElem?_map, hla]; rfl
      refine WA ?_
      refine aw_cond_t rfl ?_
      refine ZZ ?_
      refine aw_regionT [(0, none), (1, none), (2, none), (3, none), (4, none), (5, none), (6, none), (7, none), (8, none), (9, none), (10, none), (11, none), (12, none), (13, some [0]), (14, some []), (15, none)] hMixed (by kernel_rfl) ?_
      iterate 3 refine WX2 ?_
      refine ZT rfl (rd_indexq (i := 0) rfl (KE (t := 64) rfl) rfl rfl rfl hd0 rfl) ?_
      iterate 7 refine WX2 ?_
      refine ZT rfl (rd_indexq (i := ps.length - 1) rfl (KE (t := 64) rfl) rfl rfl (by omega) hdL rfl) ?_
      refine WP ?_
      refine at_ef rfl rfl (Zapp (KA (t := 64) rfl)) ?_
      rintro _ _ ⟨_, cc, hcc, rfl, rfl⟩
      refine ⟨ag_none, ?_⟩
      refine WQ ?_
      refine WA ?_
      refine wk_of [some 0] (fun _ => [(7, .o 0 0 (L ++ [(⟨hf, ht⟩ : Sid2), ⟨lf, lt⟩]).length cc), (19, .c (.r q (cR l))), (20, .c (I (cR l).length)), (21, .c (I (j + 1 : Nat)))]) (fun _ => _) (by decide) (ZNL hE) ZCF ZCH (fun _ => ?_)
      exact ⟨m - 1, by omega, j + 1, cc, L ++ [⟨hf, ht⟩, ⟨lf, lt⟩], by omega, by simp; omega, by simp; omega, hnx.symm, rfl, by simp [sR]⟩
  obtain rfl : j = l.length := by omega
  rw [List.take_of_length_le (by simp)] at hLe
  have hsl := srtS_len L
  refine ZZ ?_
  refine WR ?_
  refine al_ef rfl (ef_callp [0] (fun _ => [.arr 54 2 c (sR L)]) false (fun _ => sortY_v 60 (by kernel_rfl) cmpS_v L c (by omega)) rfl .fn rfl (by decide) (by kernel_rfl) rfl ZCH (by decide) (fun _ => .arr rfl rfl .nil) (by simp)) ?_
  rintro F1 H1 ⟨_, _, _, _, ⟨rfl, rfl⟩, hF, hH⟩
  rw [killF_nil] at hF; (try simp only [List.set_cons_zero, List.set_cons_succ, updH, posOf, lentArr, killF, killO, killV, AV.has, AV.hasL, AV.emb, AV.embL, OB.emb, embB, List.filter_cons, List.filter_nil, List.getElem?_cons_zero, List.getElem?_cons_succ, List.getD_cons_zero, List.getD_cons_succ, List.drop_succ_cons, List.drop_zero, List.drop_nil, List.contains_cons, List.contains_nil, Nat.reduceBEq, Nat.reduceEqDiff, beq_self_eq_true, Bool.or_false, Bool.false_or, Bool.or_true, Bool.true_or, Bool.false_eq_true, Option.map_some, Option.map_none, List.map_cons, List.map_nil, List.cons_append, List.nil_append, List.append_nil, List.length_cons, List.length_nil, Nat.reduceAdd, Nat.reduceLT, Nat.reduceSub, if_true, if_false, Nat.zero_add, Nat.add_zero, Nat.sub_zero, Nat.lt_irrefl, Nat.not_lt_zero, Nat.zero_lt_one, Nat.lt_add_one] at hF); (try simp only [List.set_cons_zero, List.set_cons_succ, updH, posOf, lentArr, killF, killO, killV, AV.has, AV.hasL, AV.emb, AV.embL, OB.emb, embB, List.filter_cons, List.filter_nil, List.getElem?_cons_zero, List.getElem?_cons_succ, List.getD_cons_zero, List.getD_cons_succ, List.drop_succ_cons, List.drop_zero, List.drop_nil, List.contains_cons, List.contains_nil, Nat.reduceBEq, Nat.reduceEqDiff, beq_self_eq_true, Bool.or_false, Bool.false_or, Bool.or_true, Bool.true_or, Bool.false_eq_true, Option.map_some, Option.map_none, List.map_cons, List.map_nil, List.cons_append, List.nil_append, List.append_nil, List.length_cons, List.length_nil, Nat.reduceAdd, Nat.reduceLT, Nat.reduceSub, if_true, if_false, Nat.zero_add, Nat.add_zero, Nat.sub_zero, Nat.lt_irrefl, Nat.not_lt_zero, Nat.zero_lt_one, Nat.lt_add_one] at hH); subst hF; subst hH
  refine WE ?_
  refine WR ?_
  refine al_ef rfl (ef_call [0] (fun _ => [.arr 54 2 c (sR (srtS L))]) false (fun _ => compactS_v (srtS L) c (by omega) (by omega)) rfl .fn rfl (by decide) (by kernel_rfl) rfl (fun _ => .cons (.o rfl (by omega)) .nil) (by decide) ZCH (by simp)) ?_
  rintro F1 H1 ⟨_, _, _, _, ⟨rfl, rfl⟩, hF, hH⟩
  (try simp only [List.set_cons_zero, List.set_cons_succ, updH, posOf, lentArr, killF, killO, killV, AV.has, AV.hasL, AV.emb, AV.embL, OB.emb, embB, List.filter_cons, List.filter_nil, List.getElem?_cons_zero, List.getElem?_cons_succ, List.getD_cons_zero, List.getD_cons_succ, List.drop_succ_cons, List.drop_zero, List.drop_nil, List.contains_cons, List.contains_nil, Nat.reduceBEq, Nat.reduceEqDiff, beq_self_eq_true, Bool.or_false, Bool.false_or, Bool.or_true, Bool.true_or, Bool.false_eq_true, Option.map_some, Option.map_none, List.map_cons, List.map_nil, List.cons_append, List.nil_append, List.append_nil, List.length_cons, List.length_nil, Nat.reduceAdd, Nat.reduceLT, Nat.reduceSub, if_true, if_false, Nat.zero_add, Nat.add_zero, Nat.sub_zero, Nat.lt_irrefl, Nat.not_lt_zero, Nat.zero_lt_one, Nat.lt_add_one] at hF); (try simp only [List.set_cons_zero, List.set_cons_succ, updH, posOf, lentArr, killF, killO, killV, AV.has, AV.hasL, AV.emb, AV.embL, OB.emb, embB, List.filter_cons, List.filter_nil, List.getElem?_cons_zero, List.getElem?_cons_succ, List.getD_cons_zero, List.getD_cons_succ, List.drop_succ_cons, List.drop_zero, List.drop_nil, List.contains_cons, List.contains_nil, Nat.reduceBEq, Nat.reduceEqDiff, beq_self_eq_true, Bool.or_false, Bool.false_or, Bool.or_true, Bool.true_or, Bool.false_eq_true, Option.map_some, Option.map_none, List.map_cons, List.map_nil, List.cons_append, List.nil_append, List.append_nil, List.length_cons, List.length_nil, Nat.reduceAdd, Nat.reduceLT, Nat.reduceSub, if_true, if_false, Nat.zero_add, Nat.add_zero, Nat.sub_zero, Nat.lt_irrefl, Nat.not_lt_zero, Nat.zero_lt_one, Nat.lt_add_one] at hH); subst hF; subst hH
  refine WE ?_
  exact aret_f2 [] _ rfl rfl rfl rfl rfl rfl (by rw [List.drop_zero, List.take_of_length_le (by simp)]) (by simp) rfl (by decide) (ZNK rfl) (fun _ => .nil) (fun q => ⟨q, compG (srtS L), by rw [show pltF V Fs [z] = 0 by omega], rfl, fun h => absurd h h0, fun _ => ⟨_, hcon, by rw [hLe]; rfl⟩⟩)
end Go.Proofs.YthanangkmjjbaaaGreatDoor
