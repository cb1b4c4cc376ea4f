/- Plain law: moved along X and Y, rings move so, and their doubled area stays. -/
import Derived.Test.YthanangkmjjbaaaGreatDoorQbj
import Derived.Test.YthanangkmjjbaaaGreatDoorQam
import Derived.Lib.Overlaps
import Derived.Lib.AppendZeros
import Derived.Lib.AppendZerosOnto
import Derived.Test.YthanangkmjjbaaaGreatDoorQap
import Derived.Tactics
import Derived.Test.YthanangkmjjbaaaGreatDoorQbh
import Derived.Test.YthanangkmjjbaaaGreatDoorQas
set_option linter.unusedSimpArgs false
set_option linter.unusedVariables false
/- Rings of a plane and their doubled area, by value. -/
-- NEWM
namespace Go.Proofs.YthanangkmjjbaaaGreatDoor
open Go Go.RowKit
set_option maxRecDepth 100000
/- ## Plain -/
theorem rgL_ok {V : List Vec3} {Fs : List Fac3} {z : Int} (hM : MOk V Fs) {cs : List Con} (h : IsConts (sgL V Fs z) cs) : (rgL V z cs).length ≤ 1000 ∧ ∀ r ∈ rgL V z cs, r.length ≤ 1001 ∧ ∀ q ∈ r, q.in := by
  have hlf := hM.lf
  have hok := sgL_ok (z := z) hM
  have hSl := sgL_len V Fs z
  have hsm := h.small hok
  constructor
  · unfold rgL rgs
    refine Nat.le_trans (List.length_filter_le _ _) ?_
    rw [List.length_map]
    refine Nat.le_trans (List.length_filter_le _ _) ?_
    omega
  · intro r hr
    obtain ⟨k, hk, rfl⟩ := List.mem_map.1 (List.mem_filter.1 hr).1
    have hk := (List.mem_filter.1 hk).1
    have h1 := ring_len V z k.1
    have h2 := (hsm.2 k hk).2
    exact ⟨by omega, ring_in hM (h.cuts hM k hk)⟩
def sumD (rs : List (List P2)) : Int := (rs.map dblF).sum
theorem sumD_next {rs : List (List P2)} {k : Nat} {r : List P2} (h : rs[k]? = some r) : sumD (rs.take (k + 1)) = sumD (rs.take k) + dblF r := by
  unfold sumD
  rw [take_snoc h]; simp
theorem dblF_in {r : List P2} (hl : r.length ≤ 1001) (h : ∀ q ∈ r, q.in) : -100000000000000 ≤ dblF r ∧ dblF r ≤ 100000000000000 := by
  have := dblN_in h r.length (Nat.le_refl _)
  unfold dblF
  omega
def RingsP (V : List Vec3) (Fs : List Fac3) (z e : Int) (rs : List (List P2)) : Prop := (pltF V Fs [z] ≠ 0 → e = pltF V Fs [z] ∧ rs = []) ∧ (pltF V Fs [z] = 0 → ∃ cs, IsConts (sgL V Fs z) cs ∧ e = regF (rgL V z cs) ∧ rs = if regF (rgL V z cs) = 0 then rgL V z cs else [])
def DoubP (V : List Vec3) (Fs : List Fac3) (z d n : Int) : Prop := (pltF V Fs [z] ≠ 0 → d = 0 ∧ n = 0) ∧ (pltF V Fs [z] = 0 → ∃ cs, IsConts (sgL V Fs z) cs ∧ d = sumD (rgL V z cs) ∧ n = lfN V z cs)
/- ## The walk -/
theorem ringsof_v (v w : Value) (V : List Vec3) (Fs : List Fac3) (z : Int) (hM : MOk V Fs) (hz : -100000 ≤ z ∧ z ≤ 100000) : ACalls Tryz.prog 53 [mshA v w V Fs, .c (I z)] [] fun u H => ∃ (q : Value) (A : List (Value × List P2)) (cs : List Con), u = .t [.c (.r q (rgR A)), .c (I (regF (rgL V z cs)))] ∧ H = [] ∧ IsConts (sgL V Fs z) cs ∧ A.map Prod.snd = if regF (rgL V z cs) = 0 then rgL V z cs else [] := by
  refine acalls_of (N := 21) Tryz.func53 rfl rfl (by simp) fun E hE => ?_
  refine WA ?_
  refine WR ?_
  refine al_ef rfl (ef_call0 false (fun _ => rings_v v w V Fs z hM hz) rfl .fn rfl (by decide) (by kernel_rfl) rfl (fun _ => C0 rfl) (by simp)) ?_
  rintro _ _ ⟨_, _, _, ⟨q, A, cs, rfl, rfl, hA, hcs⟩, hF, hH⟩
  (try simp only [nsl, Nat.reduceAdd, Nat.reduceLT, Nat.reduceSub] at hF); (try simp only [nsl, Nat.reduceAdd, Nat.reduceLT, Nat.reduceSub] at hH); subst hF; subst hH
  refine WE ?_
  obtain ⟨hl1, hl2⟩ := rgL_ok hM hcs
  have hAe : A.length = (rgL V z cs).length := by rw [← hA, List.length_map]
  have hAl : ∀ p ∈ A, p.2.length ≤ 100000 ∧ ∀ q ∈ p.2, q.in := fun p hp => by
    obtain ⟨h1, h2⟩ := hl2 p.2 (hA ▸ List.mem_map.2 ⟨p, hp, rfl⟩)
    exact ⟨by omega, h2⟩
  refine WR ?_
  refine al_ef rfl (ef_call0 false (fun _ => checkregion_v A q (by omega) hAl) rfl .fn rfl (by decide) (by kernel_rfl) rfl (fun _ => C0 rfl) (by simp)) ?_
  rintro _ _ ⟨_, _, _, ⟨rfl, rfl⟩, hF, hH⟩
  (try simp only [nsl, Nat.reduceAdd, Nat.reduceLT, Nat.reduceSub] at hF); (try simp only [nsl, Nat.reduceAdd, Nat.reduceLT, Nat.reduceSub] at hH); subst hF; subst hH
  refine WE ?_
  rw [hA]
  refine WA ?_
  refine aw_if rfl (fun h0 => ?_) (fun h0 => ?_)
  · refine WA ?_
    exact aret_2 [] _ rfl rfl rfl rfl rfl (by decide) (ZNK rfl) (fun _ => .nil) ⟨_, [], cs, rfl, rfl, hcs, by rw [if_neg h0]; rfl⟩
  have h0 : regF (rgL V z cs) = 0 := by omega
  refine ZZ ?_
  refine WA ?_
  exact aret_2 [] _ rfl rfl rfl rfl rfl (by decide) (ZNK rfl) (fun _ => .nil) ⟨q, A, cs, by rw [h0], rfl, hcs, by rw [if_pos h0]; exact hA⟩
theorem ringsP_v (v w : Value) (V : List Vec3) (Fs : List Fac3) (z : Int) (hVl : V.length ≤ 1000000) (hFl : Fs.length ≤ 1000000) : ACalls Tryz.prog 14 [mshA v w V Fs, .c (I z)] [] fun u H => ∃ (q : Value) (A : List (Value × List P2)) (e : Int), u = .t [.c (.r q (rgR A)), .c (I e)] ∧ H = [] ∧ RingsP V Fs z e (A.map Prod.snd) := by
  refine acalls_of (N := 19) Tryz.func14 rfl rfl (by simp) fun E hE => ?_
  refine WA ?_
  refine WR ?_
  refine al_ef rfl (ef_call0 true (fun g => sfault_v v w (g (.o 1 0 1 1)) V Fs [z] hVl hFl (by simp)) rfl .fn rfl (by decide) (by kernel_rfl) rfl (fun _ => .cons (.aL (C0 rfl)) (.cons (.frz rfl rfl rfl rfl rfl) .nil)) (fun _ _ _ _ ⟨hu, hH⟩ => by rw [hu, hH]; exact ⟨.c (.inl trivial), by simp⟩)) ?_
  rintro _ _ ⟨_, _, _, ⟨rfl, rfl⟩, hF, hH⟩
  (try simp only [nsl, Nat.reduceAdd, Nat.reduceLT, Nat.reduceSub] at hF); (try simp only [nsl, Nat.reduceAdd, Nat.reduceLT, Nat.reduceSub] at hH); subst hF; subst hH
  refine WE ?_
  refine WA ?_
  refine aw_if rfl (fun h0 => ?_) (fun h0 => ?_)
  · refine WA ?_
    exact aret_2 [] _ rfl rfl rfl rfl rfl (by decide) (ZNK rfl) (fun _ => .nil) ⟨_, [], _, rfl, rfl, fun _ => ⟨rfl, rfl⟩, fun h => absurd h h0⟩
  obtain ⟨hM, hz⟩ := pltF_ok (show pltF V Fs [z] = 0 by omega)
  refine ZZ ?_
  refine WR ?_
  refine al_ef rfl (ef_call0 false (fun _ => ringsof_v v w V Fs z hM hz) rfl .fn rfl (by decide) (by kernel_rfl) rfl (fun _ => C0 rfl) (by simp)) ?_
  rintro _ _ ⟨_, _, _, ⟨q, A, cs, rfl, rfl, hcs, hA⟩, hF, hH⟩
  (try simp only [nsl, Nat.reduceAdd, Nat.reduceLT, Nat.reduceSub] at hF); (try simp only [nsl, Nat.reduceAdd, Nat.reduceLT, Nat.reduceSub] at hH); subst hF; subst hH
  refine WE ?_
  exact aret_2 [] _ rfl rfl rfl rfl rfl (by decide) (ZNK rfl) (fun _ => .nil) ⟨q, A, _, rfl, rfl, fun h => absurd h h0, fun _ => ⟨cs, hcs, rfl, hA⟩⟩
set_option maxHeartbeats 2000000 in
theorem doubledP_v (v w : Value) (V : List Vec3) (Fs : List Fac3) (z : Int) (hVl : V.length ≤ 1000000) (hFl : Fs.length ≤ 1000000) : ACalls Tryz.prog 15 [mshA v w V Fs, .c (I z)] [] fun u H => ∃ d n : Int, u = .t [.c (I d), .c (I n), .c (I (pltF V Fs [z]))] ∧ H = [] ∧ DoubP V Fs z d n := by
  refine acalls_of (N := 39) Tryz.func15 rfl rfl (by simp) fun E hE => ?_
  refine WA ?_
  refine WR ?_
  refine al_ef rfl (ef_call0 true (fun g => sfault_v v w (g (.o 1 0 1 1)) V Fs [z] hVl hFl (by simp)) rfl .fn rfl (by decide) (by kernel_rfl) rfl (fun _ => .cons (.aL (C0 rfl)) (.cons (.frz rfl rfl rfl rfl rfl) .nil)) (fun _ _ _ _ ⟨hu, hH⟩ => by rw [hu, hH]; exact ⟨.c (.inl trivial), by simp⟩)) ?_
  rintro _ _ ⟨_, _, _, ⟨rfl, rfl⟩, hF, hH⟩
  (try simp only [nsl, Nat.reduceAdd, Nat.reduceLT, Nat.reduceSub] at hF); (try simp only [nsl, Nat.reduceAdd, Nat.reduceLT, Nat.reduceSub] at hH); subst hF; subst hH
  refine WE ?_
  refine WA ?_
  refine aw_if rfl (fun h0 => ?_) (fun h0 => ?_)
  · refine WA ?_
    exact aret_of (us := [.c (I 0), .c (I 0), .c (I (pltF V Fs [z]))]) [] (fun _ => .t [.c (I 0), .c (I 0), .c (I (pltF V Fs [z]))]) (fun _ => []) (.tmp rfl (.tmp rfl (.tmp rfl .nil))) (by decide) (ZNK rfl) (fun _ => .tL (C0 rfl)) (fun _ => .nil) (fun _ => ⟨_, _, rfl, rfl, fun _ => ⟨rfl, rfl⟩, fun h => absurd h h0⟩)
  have hp0 : pltF V Fs [z] = 0 := by omega
  obtain ⟨hM, hz⟩ := pltF_ok hp0
  refine ZZ ?_
  refine WR ?_
  refine al_ef rfl (ef_call0 false (fun _ => rings_v v w V Fs z hM hz) rfl .fn rfl (by decide) (by kernel_rfl) rfl (fun _ => C0 rfl) (by simp)) ?_
  rintro _ _ ⟨_, _, _, ⟨q, A, cs, rfl, rfl, hA, hcs⟩, hF, hH⟩
  (try simp only [nsl, Nat.reduceAdd, Nat.reduceLT, Nat.reduceSub] at hF); (try simp only [nsl, Nat.reduceAdd, Nat.reduceLT, Nat.reduceSub] at hH); subst hF; subst hH
  refine WE ?_
  obtain ⟨hl1, hl2⟩ := rgL_ok hM hcs
  rw [← hA] at hl1 hl2
  have hAe : (A.map Prod.snd).length = A.length := by simp
  have e1 : (rgR A).length = A.length := by simp
  refine WA ?_
  refine WA ?_
  refine aw_loopw (fun m F H => ∃ (k : Nat), m + k = A.length ∧ (-100000000000000 * (k : Int) ≤ sumD ((A.map Prod.snd).take k) ∧ sumD ((A.map Prod.snd).take k) ≤ 100000000000000 * k) ∧ F = [(9, .c (I (lfN V z cs))), (10, .c (I (sumD ((A.map Prod.snd).take k)))), (26, .c (.r q (rgR A))), (27, .c (I (rgR A).length)), (28, .c (I k))] ∧ H = []) ?_ ?_
  · refine wk_of [] (fun _ => [(9, .c (I (lfN V z cs))), (10, .c (I (sumD ((A.map Prod.snd).take 0)))), (26, .c (.r q (rgR A))), (27, .c (I (rgR A).length)), (28, .c (I (0 : Nat)))]) (fun _ => []) (by decide) (ZNL hE) ZCF (fun _ => .nil) (fun _ => ?_)
    exact ⟨A.length, 0, by omega, by simp [sumD], rfl, rfl⟩
  rintro m F H ⟨k, hk, hb, rfl, rfl⟩
  refine WA ?_
  refine aw_if rfl (fun hlt => ?_) (fun hge => ?_)
  · obtain ⟨p, hp⟩ : ∃ z, A[k]? = some z := ⟨_, List.getElem?_eq_getElem (by omega)⟩
    obtain ⟨hrl, hri⟩ := hl2 p.2 (List.mem_map.2 ⟨p, List.mem_of_getElem? hp, rfl⟩)
    have hnx := sumD_next (rs := A.map Prod.snd) (k := k) (r := p.2) (by rw [List.getElem?_map, hp]; rfl)
    obtain ⟨qv, r⟩ := p
    simp only at hrl hri hnx
    have hrow : (rgR A)[k]? = some [.r qv (pR r)] := by rw [List.getElem?_map, hp]; rfl
    have hdb := dblF_in hrl hri
    generalize sumD ((A.map Prod.snd).take k) = T at hb hnx ⊢
    refine WA ?_
    refine WR ?_
    refine al_ef rfl (ef_call0 false (fun _ => pdbl_v r qv (by omega) hri) rfl .fn rfl (by decide) (by kernel_rfl) rfl (fun _ => C0 rfl) (by simp)) ?_
    rintro _ _ ⟨_, _, _, ⟨rfl, rfl⟩, hF, hH⟩
    (try simp only [nsl, Nat.reduceAdd, Nat.reduceLT, Nat.reduceSub] at hF); (try simp only [nsl, Nat.reduceAdd, Nat.reduceLT, Nat.reduceSub] at hH); subst hF; subst hH
    refine WE ?_
    refine WA ?_
    refine wk_of [] (fun _ => [(9, .c (I (lfN V z cs))), (10, .c (I (T + dblF r))), (26, .c (.r q (rgR A))), (27, .c (I (rgR A).length)), (28, .c (I (k + 1 : Nat)))]) (fun _ => []) (by decide) (ZNL hE) ZCF (fun _ => .nil) (fun _ => ?_)
    exact ⟨m - 1, by omega, k + 1, by omega, by omega, by rw [hnx], rfl⟩
  obtain rfl : k = A.length := by omega
  rw [List.take_of_length_le (by simp), hA]
  refine ZZ ?_
  refine WA ?_
  exact aret_of (us := [.c (I (sumD (rgL V z cs))), .c (I (lfN V z cs)), .c (I 0)]) [] (fun _ => .t [.c (I (sumD (rgL V z cs))), .c (I (lfN V z cs)), .c (I 0)]) (fun _ => []) (.tmp rfl (.tmp rfl (.tmp rfl .nil))) (by decide) (ZNK rfl) (fun _ => .tL (C0 rfl)) (fun _ => .nil) (fun _ => ⟨_, _, by rw [hp0], rfl, fun h => absurd hp0 h, fun _ => ⟨cs, hcs, rfl, rfl⟩⟩)
end Go.Proofs.YthanangkmjjbaaaGreatDoor

/- copy into an array of the call's own. -/
namespace Go.Proofs.YthanangkmjjbaaaGreatDoor
open Go Go.RowKit
section
variable {P : Program} {N : Nat} {E : Env} {F : Fm} {H : List OB} {o : Oper} {S : Nat → Prop} {ρ : List (Option Nat)} {a : Act} {w : World}
end
end Go.Proofs.YthanangkmjjbaaaGreatDoor

/- append of zeros to no rows, where there is no room; slices.overlaps of two blocks of the call's own. -/
namespace Go.Proofs.YthanangkmjjbaaaGreatDoor
open Go Go.RowKit
section
variable {P : Program} {N : Nat} {E : Env} {F : Fm} {H : List OB} {o : Oper} {S : Nat → Prop} {ρ : List (Option Nat)} {a : Act} {w : World}
end
end Go.Proofs.YthanangkmjjbaaaGreatDoor

/- append of zeros behind some rows, where there is no room. -/
namespace Go.Proofs.YthanangkmjjbaaaGreatDoor
open Go Go.RowKit
section
variable {P : Program} {N : Nat} {E : Env} {F : Fm} {H : List OB} {o : Oper} {S : Nat → Prop} {ρ : List (Option Nat)} {a : Act} {w : World}
end
end Go.Proofs.YthanangkmjjbaaaGreatDoor

/- Texts for the functions of package slices, at any type of elements; what they do to rows. -/
namespace Go.Proofs.YthanangkmjjbaaaGreatDoor
open Go Go.RowKit
/-- Rows of this size, of plain cells. -/
def OkR (sz : Nat) (R : List (List CV)) : Prop := ∀ row ∈ R, row.length = sz ∧ ∀ u ∈ row, u.one = true
section
variable {β : Type} {r : List β} {y z : β} {i : Nat}
end
end Go.Proofs.YthanangkmjjbaaaGreatDoor

/- Plain law: whole roots; the greatest speeds that keep the limits, made in two passes, and what makes them the only ones. -/
namespace Go.Proofs.YthanangkmjjbaaaGreatDoor
structure Leg where
  long : Int
  limit : Int
/- ## Whole roots -/
/- ## The greatest speeds -/
/- ## Legs and corners -/
def capL (l : List Leg) (cs : List Int) (j : Nat) : Int := if j = 0 ∨ l.length ≤ j then 0 else min (min (cs.getD (j - 1) 0) (l.getD (j - 1) ⟨0, 0⟩).limit) (l.getD j ⟨0, 0⟩).limit
def Leg.good (x : Leg) : Prop := 1 ≤ x.long ∧ x.long ≤ 200000 ∧ 1 ≤ x.limit ∧ x.limit ≤ 100000
structure Right (l : List Leg) (cs : List Int) : Prop where
  ne : 1 ≤ l.length
  le : l.length ≤ 2000
  legs : ∀ x ∈ l, x.good
  len : cs.length + 1 = l.length
  cor : ∀ z ∈ cs, 0 ≤ z ∧ z ≤ 100000
theorem getD_mem {α : Type} {l : List α} {i : Nat} {z : α} (h : i < l.length) : l.getD i z ∈ l := by
  rw [List.getD_eq_getElem?_getD, List.getElem?_eq_getElem h]; exact List.getElem_mem h
theorem Right.leg {l : List Leg} {cs : List Int} (h : Right l cs) {i : Nat} (hi : i < l.length) : (l.getD i ⟨0, 0⟩).good := h.legs _ (getD_mem hi)
theorem Right.cap {l : List Leg} {cs : List Int} (h : Right l cs) (i : Nat) : 0 ≤ capL l cs i ∧ capL l cs i ≤ 100000 := by
  unfold capL
  split
  · omega
  · rename_i hi
    have h1 := h.leg (i := i - 1) (by omega)
    have h2 := h.leg (i := i) (by omega)
    have h3 := h.cor _ (getD_mem (l := cs) (i := i - 1) (z := 0) (by have := h.len; omega))
    unfold Leg.good at h1 h2
    omega
/- ## The two passes over lists -/
end Go.Proofs.YthanangkmjjbaaaGreatDoor

/- Faults of legs, corners and changes of speed, of the program and of its document, by value. -/
namespace Go.Proofs.YthanangkmjjbaaaGreatDoor
open Go Go.RowKit
set_option maxRecDepth 100000
abbrev Leg.row (s : Leg) : List CV := [I s.long, I s.limit]
end Go.Proofs.YthanangkmjjbaaaGreatDoor

/- Whole roots, what a leg lets one reach, peaks and what a leg takes, of the program and of its document, by value. -/
namespace Go.Proofs.YthanangkmjjbaaaGreatDoor
open Go Go.RowKit
set_option maxRecDepth 100000
section
variable {P : Program} {N : Nat} {E : Env} {F : Fm} {H : List OB} {o : Oper} {t yt : TypeId} {x y : Operand} {m n z : Int}
end
end Go.Proofs.YthanangkmjjbaaaGreatDoor

/- slices.Clone, Reverse, by value; places of paths; searches of places. -/
namespace Go.Proofs.YthanangkmjjbaaaGreatDoor
open Go Go.RowKit
set_option maxRecDepth 100000
theorem okR_map {α : Type} {f : α → List CV} {sz : Nat} (h : ∀ x, (f x).length = sz ∧ ∀ u ∈ f x, u.one = true) (l : List α) : OkR sz (l.map f) := fun row hr => by
  obtain ⟨x, -, rfl⟩ := List.mem_map.1 hr
  exact h x
/-- The first k and the last k of a list have changed their places. -/
def SwK {α : Type} (l : List α) (k : Nat) (l' : List α) : Prop := l'.length = l.length ∧ ∀ m, m < l.length → l'[m]? = if m < k ∨ l.length - 1 - m < k then l[l.length - 1 - m]? else l[m]?
theorem SwK.zero {α : Type} (l : List α) : SwK l 0 l := ⟨rfl, fun m hm => by rw [if_neg (by omega)]⟩
theorem SwK.next {α : Type} {l l' : List α} {k j : Nat} {x y : α} (h : SwK l k l') (hj : k + j + 1 = l.length) (hkj : k < j) (hx : l'[k]? = some x) (hy : l'[j]? = some y) : SwK l (k + 1) ((l'.set k y).set j x) := by
  obtain ⟨h1, h2⟩ := h
  have ek := h2 k (by omega)
  have ej := h2 j (by omega)
  rw [if_neg (by omega), hx] at ek
  rw [if_neg (by omega), hy] at ej
  refine ⟨by simp [h1], fun m hm => ?_⟩
  rw [List.getElem?_set, List.getElem?_set]
  by_cases hmj : j = m
  · subst hmj
    rw [if_pos rfl, if_pos (by simp; omega), if_pos (by omega), show l.length - 1 - j = k from by omega, ← ek]
  · rw [if_neg hmj]
    by_cases hmk : k = m
    · subst hmk
      rw [if_pos rfl, if_pos (by omega), if_pos (by omega), show l.length - 1 - k = j from by omega, ← ej]
    · rw [if_neg hmk, h2 m hm]
      by_cases hc : m < k ∨ l.length - 1 - m < k
      · rw [if_pos hc, if_pos (by omega)]
      · rw [if_neg hc, if_neg (by omega)]
theorem SwK.fin {α : Type} {l l' : List α} {k : Nat} (h : SwK l k l') (hkj : l.length ≤ 2 * k + 1) : l' = l.reverse := by
  obtain ⟨h1, h2⟩ := h
  refine List.ext_getElem? fun m => ?_
  rcases Nat.lt_or_ge m l.length with hm | hm
  · rw [List.getElem?_reverse hm, h2 m hm]
    by_cases hc : m < k ∨ l.length - 1 - m < k
    · rw [if_pos hc]
    · rw [if_neg hc, show l.length - 1 - m = m from by omega]
  · rw [List.getElem?_eq_none (by omega), List.getElem?_eq_none (by simp; omega)]
end Go.Proofs.YthanangkmjjbaaaGreatDoor

/- Moved meshes of the reference, by value. -/
namespace Go.Proofs.YthanangkmjjbaaaGreatDoor
open Go Go.RowKit
set_option maxRecDepth 100000
def addV (b v : Vec3) : Vec3 := ⟨v.x + b.x, v.y + b.y, v.z + b.z⟩
def mvV (b : Vec3) (V : List Vec3) : List Vec3 := V.map (addV b)
theorem fac_ok (f : Fac3) : (Fac3.row f).length = 3 ∧ ∀ u ∈ Fac3.row f, u.one = true := by
  refine ⟨rfl, fun u hu => ?_⟩
  simp only [Fac3.row, List.mem_cons, List.not_mem_nil, or_false] at hu
  rcases hu with rfl | rfl | rfl <;> rfl
theorem cloneF_v (L : List Fac3) (v : Value) (hl : L.length ≤ 1000000) : ACalls Tryz.prog 91 [.c (.r v (fR L))] [] fun u H => ∃ q, u = .c (.r q (fR L)) ∧ H = [] := by
  have hR : OkR 3 (fR L) := okR_map fac_ok L
  refine acalls_of (N := 8) Tryz.func91 rfl rfl (by simp) fun E hE => ?_
  refine aw_rnil (t := 0) rfl fun hnil => ?_
  refine WA ?_
  refine WA ?_
  refine aw_cond rfl (fun h => ?_) (fun h => ?_)
  · have hn := hnil h
    rw [hn]
    refine WA ?_
    exact aret_1 [] _ rfl rfl rfl (by decide) (ZNK rfl) (fun _ => .nil) ⟨_, rfl, rfl⟩
  · refine ZZ ?_
    refine WR ?_
    refine al_ef rfl (Zapp (hE := KA (t := 27) rfl) (hsrc := .ro (fun r h => (hR r h).1) (fun r h => (hR r h).2))) ?_
    rintro _ _ ⟨_, cc, hcc, rfl, rfl⟩
    refine WE ?_
    exact aret_f1 [] _ rfl rfl rfl rfl (by rw [List.drop_zero, List.take_of_length_le (by simp)]) (by simp) rfl (by decide) (ZNK rfl) (fun _ => .nil) (fun q => ⟨q, rfl, rfl⟩)
theorem moved1_v (a b : Vec3) (ha : a.in 100000) (hb : b.in 100000) : ACalls Tryz.prog 46 [.a [.c (I a.x), .c (I a.y), .c (I a.z)], .p 0 0 0] [.box [.c (I b.x), .c (I b.y), .c (I b.z)]] fun u H => u = .a [.c (I (addV b a).x), .c (I (addV b a).y), .c (I (addV b a).z)] ∧ H = [.box [.c (I b.x), .c (I b.y), .c (I b.z)]] := by
  obtain ⟨x, y, z⟩ := a
  obtain ⟨bx, by', bz⟩ := b
  simp only [Vec3.in] at ha hb
  refine acalls_of (N := 20) Tryz.func46 rfl rfl (by simp) fun E hE => ?_
  refine WA ?_
  refine WA ?_
  exact aret_a [some 0] _ rfl (KK (t := 34) rfl) rfl (Cells.box rfl) (by simp) (by (try simp only [nm, putL, Nat.reduceAdd, cellsOf, cvOf]) <;> rfl) (by decide) (ZNK rfl) (fun _ => C0 rfl) ZCH ⟨rfl, rfl⟩
theorem right_v (v w : Value) (V : List Vec3) (Fs : List Fac3) (hVl : V.length ≤ 1000000) (hFl : Fs.length ≤ 1000000) : ACalls Tryz.prog 92 [mshA v w V Fs] [] fun u H => ∃ (q1 q2 : Value) (V' : List Vec3) (F' : List Fac3), u = .t [mshA q1 q2 V' F', .c (I (mshF V Fs))] ∧ H = [] ∧ (mshF V Fs = 0 → V' = V ∧ F' = Fs) := by
  refine acalls_of (N := 12) Tryz.func92 rfl rfl (by simp) fun E hE => ?_
  refine WA ?_
  refine WR ?_
  refine al_ef rfl (ef_call0 false (fun _ => rmshF_v v w V Fs hVl hFl) rfl .fn rfl (by decide) (by kernel_rfl) rfl (fun _ => C0 rfl) (by simp)) ?_
  rintro _ _ ⟨_, _, _, ⟨rfl, rfl⟩, hF, hH⟩
  (try simp only [nsl, Nat.reduceAdd, Nat.reduceLT, Nat.reduceSub] at hF); (try simp only [nsl, Nat.reduceAdd, Nat.reduceLT, Nat.reduceSub] at hH); subst hF; subst hH
  refine WE ?_
  refine WA ?_
  refine aw_if rfl (fun h => ?_) (fun h => ?_)
  · refine WA ?_
    exact aret_a2 [] _ rfl (KK (t := 29) rfl) rfl (Cells.box rfl) (by simp) (by (try simp only [nm, putL, Nat.reduceAdd, cellsOf, cvOf]) <;> rfl) rfl rfl (by decide) (ZNK rfl) (fun _ => C0 rfl) (fun _ => .nil) ⟨_, _, [], [], rfl, rfl, fun e => absurd e h⟩
  · refine ZZ ?_
    refine WA ?_
    exact aret_a2 [] _ rfl (KK (t := 29) rfl) rfl (Cells.box rfl) (by simp) (by (try simp only [nm, putL, Nat.reduceAdd, cellsOf, cvOf]) <;> rfl) rfl rfl (by decide) (ZNK rfl) (fun _ => C0 rfl) (fun _ => .nil) ⟨v, w, V, Fs, by rw [show mshF V Fs = 0 by omega], rfl, fun _ => ⟨rfl, rfl⟩⟩
end Go.Proofs.YthanangkmjjbaaaGreatDoor

/- Plain law: moved along X and Y, rings move so, and their doubled area stays. -/
namespace Go.Proofs.YthanangkmjjbaaaGreatDoor
def sh2 (x y : Int) (p : P2) : P2 := ⟨p.x + x, p.y + y⟩
theorem sh2_inj {x y : Int} {a b : P2} : sh2 x y a = sh2 x y b ↔ a = b := by
  obtain ⟨a1, a2⟩ := a
  obtain ⟨b1, b2⟩ := b
  simp [sh2]
/- ## Segments -/
theorem vx_z {V : List Vec3} {b : Vec3} (hb : b.z = 0) (i : Int) : (vx (mvV b V) i).z = (vx V i).z := by
  unfold vx mvV
  simp only [List.getD_eq_getElem?_getD, List.getElem?_map]
  cases V[i.toNat]? with
  | none => rfl
  | some v => simp [addV, hb]
theorem vx_xy {V : List Vec3} {b : Vec3} {i : Int} (h : 0 ≤ i ∧ i < V.length) : vx (mvV b V) i = addV b (vx V i) := by
  unfold vx mvV
  simp only [List.getD_eq_getElem?_getD, List.getElem?_map]
  rw [List.getElem?_eq_getElem (by omega)]
  rfl
theorem sgL_mv {V : List Vec3} {b : Vec3} (hb : b.z = 0) (Fs : List Fac3) (z : Int) : sgL (mvV b V) Fs z = sgL V Fs z := by
  have h := vx_z (V := V) hb
  have hf : ∀ f, fzs (mvV b V) f = fzs V f := fun f => by unfold fzs; rw [h, h, h]
  have hu : ∀ i, upI (mvV b V) z i = upI V z i := fun i => by unfold upI; rw [h]
  have hc : ∀ f, crF (mvV b V) z f = crF V z f := fun f => by unfold crF; rw [hf]
  have hs : ∀ g s, sgS (mvV b V) z g s = sgS V z g s := fun g s => by unfold sgS; rw [hu, hu]
  have hF : ∀ i f, sgF (mvV b V) z i f = sgF V z i f := fun i f => by
    unfold sgF
    rw [show sgS (mvV b V) z = sgS V z from funext fun g => funext fun s => hs g s]
  unfold sgL crT crN sgAt
  simp only [hc, hF]
/- ## Points -/
theorem lowF_mv {N D t : Int} (hD : 1 ≤ D) : lowF (N + t * D) D = ⟨(lowF N D).n + t * (lowF N D).d, (lowF N D).d⟩ := by
  have hg : Int.gcd (N + t * D) D = Int.gcd N D := by simp
  have hp := gcd_pos' (n := N) hD
  have d1 : ((Int.gcd N D : Nat) : Int) ∣ N := Int.gcd_dvd_left ..
  have d2 : ((Int.gcd N D : Nat) : Int) ∣ D := Int.gcd_dvd_right ..
  unfold lowF
  rw [hg]
  congr 1
  rw [Int.tdiv_eq_ediv_of_dvd d1, Int.tdiv_eq_ediv_of_dvd d2, Int.tdiv_eq_ediv_of_dvd (Int.dvd_add d1 (Int.dvd_mul_of_dvd_right d2)), Int.add_ediv_of_dvd_left d1, Int.mul_ediv_assoc _ d2]
theorem nearF_mv {n d t : Int} (hd : 1 ≤ d) : nearF ⟨n + t * d, d⟩ = nearF ⟨n, d⟩ + t := by
  unfold nearF
  simp only
  rw [show 2 * (n + t * d) + d = (2 * n + d) + t * (2 * d) by rw [Int.mul_add, Int.mul_left_comm]; omega, Int.add_mul_ediv_right _ _ (by omega)]
theorem cutN_mv (p q za zb z t : Int) : cutN (p + t) (q + t) za zb z = cutN p q za zb z + t * (zb - za) := by
  unfold cutN
  rw [Int.add_mul, show q + t - (p + t) = q - p by omega]
  omega
theorem ptV_mv {V : List Vec3} {b : Vec3} {z : Int} {s : Sid2} (hb : b.z = 0) (hs : Cuts' V z s) : ptV (mvV b V) z s = sh2 b.x b.y (ptV V z s) := by
  obtain ⟨h1, h2, h3, h4⟩ := hs
  unfold ptV cutV sh2
  simp only
  rw [vx_xy h1, vx_xy h2]
  unfold addV
  simp only [hb, Int.add_zero]
  have hD : 1 ≤ (vx V s.t).z - (vx V s.f).z := by omega
  rw [cutN_mv, cutN_mv, lowF_mv hD, lowF_mv hD, nearF_mv, nearF_mv]
  · exact (low_between _ _ _ _ z h3 h4).2.2.1
  · exact (low_between _ _ _ _ z h3 h4).2.2.1
/- ## Rings -/
theorem compG_map {α β : Type} [DecidableEq α] [DecidableEq β] {f : α → β} (hf : ∀ a b, f a = f b ↔ a = b) : ∀ l : List α, compG (l.map f) = (compG l).map f
  | [] => rfl
  | [_] => rfl
  | x :: y :: l => by
    have ih := compG_map hf (y :: l)
    simp only [List.map_cons] at ih ⊢
    unfold compG
    by_cases e : x = y
    · rw [if_pos ((hf x y).2 e), if_pos e, ih]
    · rw [if_neg (fun h => e ((hf x y).1 h)), if_neg e, ih]; rfl
theorem trimN_map {f : P2 → P2} (hf : ∀ a b, f a = f b ↔ a = b) : ∀ (n : Nat) (l : List P2), trimN n (l.map f) = (trimN n l).map f
  | 0, _ => rfl
  | n + 1, l => by
    unfold trimN
    have e : (1 < (l.map f).length ∧ (l.map f).getLast? = (l.map f).head?) ↔ (1 < l.length ∧ l.getLast? = l.head?) := by
      rw [List.length_map, List.getLast?_map, List.head?_map]
      refine and_congr_right fun h => ?_
      cases h1 : l.getLast? <;> cases h2 : l.head? <;> simp [hf]
    by_cases h : 1 < l.length ∧ l.getLast? = l.head?
    · rw [if_pos (e.2 h), if_pos h, ← List.map_dropLast, trimN_map hf n]
    · rw [if_neg (fun h' => h (e.1 h')), if_neg h]
theorem ringV_mv {V : List Vec3} {b : Vec3} {z : Int} {c : List Sid2} (hb : b.z = 0) (hs : ∀ s ∈ c, Cuts' V z s) : ringV (mvV b V) z c = (ringV V z c).map (sh2 b.x b.y) := by
  unfold ringV trimE
  have h1 : c.map (ptV (mvV b V) z) = (c.map (ptV V z)).map (sh2 b.x b.y) := by
    rw [List.map_map]
    exact List.map_congr_left fun s hs' => ptV_mv hb (hs s hs')
  rw [h1, compG_map fun _ _ => sh2_inj, trimN_map fun _ _ => sh2_inj, List.length_map]
/- ## Areas -/
theorem ptA_map {f : P2 → P2} {l : List P2} {i : Nat} (h : i < l.length) : ptA (l.map f) i = f (ptA l i) := by
  unfold ptA
  rw [List.getD_eq_getElem?_getD, List.getD_eq_getElem?_getD, List.getElem?_map, List.getElem?_eq_getElem h]; rfl
theorem crP_mv (x y : Int) (p q : P2) : crP (sh2 x y p) (sh2 x y q) = crP p q + (p.x * y - p.y * x) - (q.x * y - q.y * x) := by
  unfold crP sh2
  simp only
  rw [Int.add_mul, Int.add_mul, Int.mul_add, Int.mul_add, Int.mul_add, Int.mul_add, Int.mul_comm x q.y, Int.mul_comm y q.x, Int.mul_comm x y]
  omega
theorem dblN_mv (x y : Int) (l : List P2) : ∀ k, k ≤ l.length → dblN (l.map (sh2 x y)) k = dblN l k + ((ptA l 0).x * y - (ptA l 0).y * x) - ((ptA l (k % l.length)).x * y - (ptA l (k % l.length)).y * x)
  | 0, _ => by simp [dblN]
  | k + 1, h => by
    have ih := dblN_mv x y l k (by omega)
    rw [Nat.mod_eq_of_lt (by omega : k < l.length)] at ih
    unfold dblN
    rw [ih, List.length_map, ptA_map (by omega), ptA_map (Nat.mod_lt _ (by omega)), crP_mv]
    omega
theorem dblF_mv (x y : Int) (l : List P2) : dblF (l.map (sh2 x y)) = dblF l := by
  unfold dblF
  rw [List.length_map, dblN_mv x y l l.length (Nat.le_refl _), Nat.mod_self]
  omega
theorem okB_mv (x y : Int) (l : List P2) : okB (l.map (sh2 x y)) = okB l := by
  unfold okB
  rw [dblF_mv, List.length_map]
/- ## Faults -/
theorem trn_mv (x y : Int) (a b c : P2) : trn (sh2 x y a) (sh2 x y b) (sh2 x y c) = trn a b c := by
  unfold trn sh2
  simp only
  rw [show b.x + x - (a.x + x) = b.x - a.x by omega, show c.y + y - (a.y + y) = c.y - a.y by omega, show b.y + y - (a.y + y) = b.y - a.y by omega, show c.x + x - (a.x + x) = c.x - a.x by omega]
theorem apaB_mv (t a b c d : Int) : apaB (a + t) (b + t) (c + t) (d + t) = apaB a b c d := by
  unfold apaB
  congr 1
  · rw [decide_eq_decide]; omega
  · rw [decide_eq_decide]; omega
theorem metB_mv (x y : Int) (a b c d : P2) : metB (sh2 x y a) (sh2 x y b) (sh2 x y c) (sh2 x y d) = metB a b c d := by
  unfold metB
  rw [trn_mv, trn_mv, trn_mv, trn_mv]
  unfold sh2
  simp only
  rw [apaB_mv, apaB_mv]
theorem fldB_mv (x y : Int) (a b c : P2) : fldB (sh2 x y a) (sh2 x y b) (sh2 x y c) = fldB a b c := by
  unfold fldB
  rw [trn_mv]
  unfold sh2
  simp only
  rw [show b.x + x - (a.x + x) = b.x - a.x by omega, show c.x + x - (a.x + x) = c.x - a.x by omega, show b.y + y - (a.y + y) = b.y - a.y by omega, show c.y + y - (a.y + y) = c.y - a.y by omega]
theorem any_congrM {l : List Nat} {p q : Nat → Bool} (h : ∀ x ∈ l, p x = q x) : l.any p = l.any q := by
  rw [Bool.eq_iff_iff]
  simp only [List.any_eq_true]
  exact ⟨fun ⟨x, hx, e⟩ => ⟨x, hx, by rw [← h x hx]; exact e⟩, fun ⟨x, hx, e⟩ => ⟨x, hx, by rw [h x hx]; exact e⟩⟩
theorem sfF_mv (x y : Int) (l : List P2) : sfF (l.map (sh2 x y)) = sfF l := by
  unfold sfF
  rw [List.length_map]
  refine any_congrM fun i hi => ?_
  have hi := List.mem_range.1 hi
  have h1 : (i + 1) % l.length < l.length := Nat.mod_lt _ (by omega)
  have h2 : (i + 2) % l.length < l.length := Nat.mod_lt _ (by omega)
  unfold sfI
  rw [List.length_map, ptA_map h1, ptA_map hi, ptA_map h2, fldB_mv]
  congr 1
  refine any_congrM fun k hk => ?_
  have hk := List.mem_range.1 hk
  have h3 : (k + 1) % l.length < l.length := Nat.mod_lt _ (by omega)
  unfold sfP
  rw [List.length_map, ptA_map hi, ptA_map h1, ptA_map hk, ptA_map h3, metB_mv]
theorem nodup_mv (x y : Int) (l : List P2) : (l.map (sh2 x y)).Nodup ↔ l.Nodup := by
  refine ⟨fun h => ?_, fun h => nodup_map_of h fun a _ b _ e => sh2_inj.1 e⟩
  rw [List.Nodup, List.pairwise_map] at h
  exact h.imp fun hne e => hne (by rw [e])
theorem chkF_mv (x y : Int) (l : List P2) : chkF (l.map (sh2 x y)) = chkF l := by
  unfold chkF
  rw [List.length_map, sfF_mv]
  by_cases h : l.Nodup
  · rw [if_pos ((nodup_mv x y l).2 h), if_pos h]
  · rw [if_neg (fun h' => h ((nodup_mv x y l).1 h')), if_neg h]
def sh5 (x y : Int) (s : Sd5) : Sd5 := ⟨s.r, sh2 x y s.a, sh2 x y s.b⟩
theorem sds5_mv (x y : Int) (l : List P2) (i : Int) : sds5 (l.map (sh2 x y)) i = (sds5 l i).map (sh5 x y) := by
  unfold sds5
  rw [List.length_map, List.map_map]
  refine List.map_congr_left fun k hk => ?_
  have hk := List.mem_range.1 hk
  have h3 : (k + 1) % l.length < l.length := Nat.mod_lt _ (by omega)
  rw [ptA_map hk, ptA_map h3]; rfl
theorem allS_mv (x y : Int) (rs : List (List P2)) : ∀ k, allS (rs.map (List.map (sh2 x y))) k = (allS rs k).map (sh5 x y)
  | 0 => rfl
  | k + 1 => by
    unfold allS
    rw [allS_mv x y rs k, List.map_append, ← sds5_mv]
    congr 2
    rw [List.getD_eq_getElem?_getD, List.getD_eq_getElem?_getD, List.getElem?_map]
    cases rs[k]? <;> rfl
theorem cnf_mv (x y : Int) (l : List Sd5) : cnf (l.map (sh5 x y)) = cnf l := by
  have h : ∀ a b, hitB (sh5 x y a) (sh5 x y b) = hitB a b := fun a b => by unfold hitB sh5; simp only; rw [metB_mv]
  unfold cnf
  simp only [List.any_map, Function.comp_def, h]
theorem tot_mv (x y : Int) (rs : List (List P2)) : tot (rs.map (List.map (sh2 x y))) = tot rs := by
  unfold tot
  rw [List.map_map]
  congr 1
  exact List.map_congr_left fun r _ => by simp
theorem regF_mv (x y : Int) (rs : List (List P2)) : regF (rs.map (List.map (sh2 x y))) = regF rs := by
  have h : (rs.map (List.map (sh2 x y))).map chkF = rs.map chkF := by
    rw [List.map_map]
    exact List.map_congr_left fun r _ => chkF_mv x y r
  unfold regF
  rw [h, tot_mv, List.length_map, allS_mv, cnf_mv]
theorem sumD_mv (x y : Int) (rs : List (List P2)) : sumD (rs.map (List.map (sh2 x y))) = sumD rs := by
  unfold sumD
  rw [List.map_map]
  congr 1
  exact List.map_congr_left fun r _ => dblF_mv x y r
theorem rgs_mv {V : List Vec3} {b : Vec3} {z : Int} {cs : List Con} (hb : b.z = 0) (h : ∀ k ∈ cs, ∀ s ∈ k.1, Cuts' V z s) : rgs (mvV b V) z cs = (rgs V z cs).map (List.map (sh2 b.x b.y)) := by
  unfold rgs
  rw [List.map_map]
  exact List.map_congr_left fun k hk => ringV_mv hb (h k (List.mem_filter.1 hk).1)
theorem rgL_mv {V : List Vec3} {b : Vec3} {z : Int} {cs : List Con} (hb : b.z = 0) (h : ∀ k ∈ cs, ∀ s ∈ k.1, Cuts' V z s) : rgL (mvV b V) z cs = (rgL V z cs).map (List.map (sh2 b.x b.y)) ∧ lfN (mvV b V) z cs = lfN V z cs := by
  have ho : okB ∘ List.map (sh2 b.x b.y) = okB := funext fun r => okB_mv b.x b.y r
  have ho2 : ((fun r => !okB r) ∘ List.map (sh2 b.x b.y)) = fun r => !okB r := funext fun r => by simp only [Function.comp]; rw [okB_mv]
  unfold rgL lfN
  rw [rgs_mv hb h]
  refine ⟨?_, ?_⟩
  · rw [List.filter_map, ho]
  · rw [List.filter_map, List.length_map, ho2]
/-- The law. -/
theorem moved_ok {V : List Vec3} {Fs : List Fac3} {b : Vec3} {z f g c d n n' : Int} {A B : List (List P2)} (hM : MOk V Fs) (hb : b.z = 0) (h0 : mshF V Fs = 0) (h0' : mshF (mvV b V) Fs = 0) (h1 : RingsP V Fs z f A) (h2 : RingsP (mvV b V) Fs z g B) (h3 : DoubP V Fs z c n) (h4 : DoubP (mvV b V) Fs z d n') : f = g ∧ c = d ∧ n = n' ∧ B = A.map (List.map (sh2 b.x b.y)) := by
  have e1 : pltF V Fs [z] = plnF [z] := by rw [pltF, if_neg (by omega)]
  have e2 : pltF (mvV b V) Fs [z] = plnF [z] := by rw [pltF, if_neg (by omega)]
  unfold RingsP at h1 h2
  unfold DoubP at h3 h4
  rw [e1] at h1 h3
  rw [e2] at h2 h4
  by_cases hp : plnF [z] = 0
  · obtain ⟨cs1, k1, rfl, rfl⟩ := h1.2 hp
    obtain ⟨cs2, k2, rfl, rfl⟩ := h2.2 hp
    obtain ⟨cs3, k3, rfl, rfl⟩ := h3.2 hp
    obtain ⟨cs4, k4, rfl, rfl⟩ := h4.2 hp
    rw [sgL_mv hb] at k2 k4
    obtain rfl := k1.det k2
    obtain rfl := k1.det k3
    obtain rfl := k1.det k4
    obtain ⟨q1, q2⟩ := rgL_mv hb (k1.cuts hM)
    rw [q1, q2, regF_mv, sumD_mv]
    refine ⟨rfl, rfl, rfl, ?_⟩
    by_cases hr : regF (rgL V z cs1) = 0
    · rw [if_pos hr, if_pos hr]
    · rw [if_neg hr, if_neg hr]; rfl
  · obtain ⟨rfl, rfl⟩ := h1.1 hp
    obtain ⟨rfl, rfl⟩ := h2.1 hp
    obtain ⟨rfl, rfl⟩ := h3.1 hp
    obtain ⟨rfl, rfl⟩ := h4.1 hp
    exact ⟨rfl, rfl, rfl, rfl⟩
end Go.Proofs.YthanangkmjjbaaaGreatDoor
