/- Planes of the stream, by value. -/
import Derived.Test.YtlblimbelfenaaaGreatQbm
import Derived.Test.YtlblimbelfenaaaGreatQbg
import Derived.Test.YtlblimbelfenaaaGreatQbe
import Derived.Test.YtlblimbelfenaaaGreatQar
set_option linter.unusedSimpArgs false
set_option linter.unusedVariables false
/- Equal regions; the reference's rings with what is wrong, their areas, by value. -/
-- NEWM
namespace Go.Proofs.YtlblimbelfenaaaGreat
open Go Go.RowKit
set_option maxRecDepth 100000
theorem p2_eqk {a b : P2} : (a.x = b.x ∧ a.y = b.y) ↔ a = b := (p2_eq a b).symm
theorem eqPt_a (l l' : List P2) (v v' : Value) (hl : l.length ≤ 1000000000) (hl' : l'.length ≤ 1000000000) : ACalls Tryz.prog 69 [.c (.r v (l.map P2.row)), .c (.r v' (l'.map P2.row))] [] fun u H => ∃ b : Bool, u = .c (B b) ∧ H = [] ∧ (b = true ↔ l = l') := by
 have e1 : (l.map P2.row).length = l.length := by simp
 have e2 : (l'.map P2.row).length = l'.length := by simp
 refine acalls_of (N := 26) Tryz.func69 rfl rfl (by simp) fun E hE => ?_
 refine WA ?_
 refine WA ?_
 refine aw_if rfl (fun hne => ?_) (fun heq => ?_)
 ·refine WA ?_
  exact aret_1 [] _ rfl rfl rfl (by decide) (ZNK rfl) (fun _ => .nil) ⟨_, rfl, rfl, by simp; intro e; rw [e] at hne; omega⟩
 refine ZZ ?_
 refine WA ?_
 refine aw_loopw (fun n F H => ∃ k : Nat, n + k = l.length ∧ l.take k = l'.take k ∧ F = [(0, .c (.r v (l.map P2.row))), (1, .c (.r v' (l'.map P2.row))), (12, .c (I (l.map P2.row).length)), (13, .c (I k))] ∧ H = []) ?_ ?_
 ·refine wk_of [] (fun _ => [(0, .c (.r v (l.map P2.row))), (1, .c (.r v' (l'.map P2.row))), (12, .c (I (l.map P2.row).length)), (13, .c (I (0 : Nat)))]) (fun _ => _) (by decide) (ZNL hE) ZCF (fun _ => .nil) (fun _ => ?_)
  exact ⟨l.length, 0, by omega, rfl, rfl, rfl⟩
 rintro n F H ⟨k, hk, ht, rfl, rfl⟩
 refine WA ?_
 refine aw_if rfl (fun hlt => ?_) (fun hge => ?_)
 ·obtain ⟨s, hs⟩ : ∃ s, l[k]? = some s := ⟨_, List.getElem?_eq_getElem (by omega)⟩
  obtain ⟨s', hs'⟩ : ∃ s', l'[k]? = some s' := ⟨_, List.getElem?_eq_getElem (by omega)⟩
  have hrow : (l.map P2.row)[k]? = some (P2.row s) := by rw [List.getElem?_map, hs]; rfl
  have hrow' : (l'.map P2.row)[k]? = some (P2.row s') := by rw [List.getElem?_map, hs']; rfl
  refine WA ?_
  refine ZZ ?_
  refine aw_regionT [(0, none), (1, none), (2, none), (3, none), (4, none), (5, none), (6, none), (7, none), (8, none)] hMixed (by kernel_rfl) ?_
  refine WQ ?_
  refine aw_if rfl (fun hn => ?_) (fun he => ?_)
  ·refine WA ?_
   refine aret_1 [] _ rfl rfl rfl (by decide) (ZNK rfl) (fun _ => .nil) ⟨_, rfl, rfl, ?_⟩
   simp only [Bool.false_eq_true, false_iff]
   intro e
   subst e
   rw [hs] at hs'
   exact hn (p2_eqk.2 (Option.some.inj hs'))
  ·refine ZZ ?_
   refine WA ?_
   refine wk_of [] (fun _ => [(0, .c (.r v (l.map P2.row))), (1, .c (.r v' (l'.map P2.row))), (12, .c (I (l.map P2.row).length)), (13, .c (I (k + 1 : Nat)))]) (fun _ => _) (by decide) (ZNL hE) ZCF (fun _ => .nil) (fun _ => ?_)
   exact ⟨n - 1, by omega, k + 1, by omega, by rw [take_nextk hs, take_nextk hs', ht, p2_eqk.1 (Decidable.not_not.1 he)], rfl, rfl⟩
 refine WA ?_
 refine aret_1 [] _ rfl rfl rfl (by decide) (ZNK rfl) (fun _ => .nil) ⟨_, rfl, rfl, ?_⟩
 rw [List.take_of_length_le (by omega), List.take_of_length_le (by omega)] at ht
 simp [ht]
set_option maxHeartbeats 2000000 in
theorem eqfR_a (l l' : List (Value × List P2)) (v v' : Value) (hl : l.length ≤ 1000000) (hl' : l'.length ≤ 1000000) (hs : ∀ p ∈ l, p.2.length ≤ 1000000) (hs' : ∀ p ∈ l', p.2.length ≤ 1000000) : ACalls Tryz.prog 68 [.c (.r v (rgR l)), .c (.r v' (rgR l')), .f (.func 69) []] [] fun u H => ∃ b : Bool, u = .c (B b) ∧ H = [] ∧ (b = true ↔ l.map (fun p => p.2) = l'.map (fun p => p.2)) := by
 have e1 : (rgR l).length = l.length := by simp
 have e2 : (rgR l').length = l'.length := by simp
 refine acalls_of (N := 32) Tryz.func68 rfl rfl (by simp) fun E hE => ?_
 refine WA ?_
 refine WA ?_
 refine aw_if rfl (fun hne => ?_) (fun heq => ?_)
 ·refine WA ?_
  refine aret_1 [] _ rfl rfl rfl (by decide) (ZNK rfl) (fun _ => .nil) ⟨_, rfl, rfl, ?_⟩
  simp only [Bool.false_eq_true, false_iff]
  intro e
  have := congrArg List.length e
  rw [List.length_map, List.length_map] at this
  omega
 refine ZZ ?_
 refine WA ?_
 refine aw_loopw (fun n F H => ∃ k : Nat, n + k = l.length ∧ (l.map fun p => p.2).take k = (l'.map fun p => p.2).take k ∧ F = [(1, .c (.r v' (rgR l'))), (2, .f (.func 69) []), (15, .c (.r v (rgR l))), (16, .c (I (rgR l).length)), (17, .c (I k))] ∧ H = []) ?_ ?_
 ·refine wk_of [] (fun _ => [(1, .c (.r v' (rgR l'))), (2, .f (.func 69) []), (15, .c (.r v (rgR l))), (16, .c (I (rgR l).length)), (17, .c (I (0 : Nat)))]) (fun _ => _) (by decide) (ZNL hE) ZCF (fun _ => .nil) (fun _ => ?_)
  exact ⟨l.length, 0, by omega, rfl, rfl, rfl⟩
 rintro n F H ⟨k, hk, ht, rfl, rfl⟩
 refine WA ?_
 refine aw_if rfl (fun hlt => ?_) (fun hge => ?_)
 ·obtain ⟨p, hp⟩ : ∃ s, l[k]? = some s := ⟨_, List.getElem?_eq_getElem (by omega)⟩
  obtain ⟨p', hp'⟩ : ∃ s', l'[k]? = some s' := ⟨_, List.getElem?_eq_getElem (by omega)⟩
  have hm := hs p (List.mem_of_getElem? hp)
  have hm' := hs' p' (List.mem_of_getElem? hp')
  obtain ⟨pv, ps⟩ := p
  obtain ⟨pv', ps'⟩ := p'
  simp only at hm hm'
  have hrow : (rgR l)[k]? = some [.r pv (pR ps)] := by rw [List.getElem?_map, hp]; rfl
  have hrow' : (rgR l')[k]? = some [.r pv' (pR ps')] := by rw [List.getElem?_map, hp']; rfl
  have hq : (l.map fun p => p.2)[k]? = some ps := by rw [List.getElem?_map, hp]; rfl
  have hq' : (l'.map fun p => p.2)[k]? = some ps' := by rw [List.getElem?_map, hp']; rfl
  refine WA ?_
  refine WA ?_
  refine WR ?_
  refine al_ef rfl (ef_call0 false (fun _ => eqPt_a ps ps' pv pv' (by omega) (by omega)) rfl (.clo rfl) rfl (by decide) (by kernel_rfl) rfl (fun _ => C0 rfl) (by simp)) ?_
  rintro _ _ ⟨_, _, _, ⟨bb, rfl, rfl, hb⟩, hF, hH⟩
  (refine NST hF hH ?_; clear hF hH; rintro rfl rfl)
  refine WE ?_
  refine aw_cond rfl (fun hn => ?_) (fun he => ?_)
  ·refine WA ?_
   refine aret_1 [] _ rfl rfl rfl (by decide) (ZNK rfl) (fun _ => .nil) ⟨_, rfl, rfl, ?_⟩
   simp only [Bool.false_eq_true, false_iff]
   intro e
   rw [e, hq'] at hq
   have h2 := Option.some.inj hq
   rw [hb.2 h2.symm] at hn
   simp at hn
  ·have hbt : bb = true := by simpa using he
   have h2 := hb.1 hbt
   refine ZZ ?_
   refine WA ?_
   refine wk_of [] (fun _ => [(1, .c (.r v' (rgR l'))), (2, .f (.func 69) []), (15, .c (.r v (rgR l))), (16, .c (I (rgR l).length)), (17, .c (I (k + 1 : Nat)))]) (fun _ => _) (by decide) (ZNL hE) ZCF (fun _ => .nil) (fun _ => ?_)
   exact ⟨n - 1, by omega, k + 1, by omega, by rw [take_lastk hq, take_lastk hq', ht, h2], rfl, rfl⟩
 refine WA ?_
 refine aret_1 [] _ rfl rfl rfl (by decide) (ZNK rfl) (fun _ => .nil) ⟨_, rfl, rfl, ?_⟩
 rw [List.take_of_length_le (by simp; omega), List.take_of_length_le (by simp; omega)] at ht
 simp only [ht]
theorem samer_v (l l' : List (Value × List P2)) (v v' : Value) (hl : l.length ≤ 1000000) (hl' : l'.length ≤ 1000000) (hs : ∀ p ∈ l, p.2.length ≤ 1000000) (hs' : ∀ p ∈ l', p.2.length ≤ 1000000) : ACalls Tryz.prog 17 [.c (.r v (rgR l)), .c (.r v' (rgR l'))] [] fun u H => ∃ b : Bool, u = .c (B b) ∧ H = [] ∧ (b = true ↔ l.map (fun p => p.2) = l'.map (fun p => p.2)) := by
 refine acalls_of (N := 8) Tryz.func17 rfl rfl (by simp) fun E hE => ?_
 refine WA ?_
 refine WR ?_
 refine al_ef rfl (ef_call0 false (fun _ => eqfR_a l l' v v' hl hl' hs hs') rfl .fn rfl (by decide) (by kernel_rfl) rfl (fun _g => .cons (.c rfl) (.cons (.c rfl) (.cons (.fL .nil) .nil))) (by simp)) ?_
 rintro _ _ ⟨_, _, _, ⟨bb, rfl, rfl, hb⟩, hF, hH⟩
 (refine NST hF hH ?_; clear hF hH; rintro rfl rfl)
 refine WE ?_
 exact aret_1 [] _ rfl rfl rfl (by decide) (ZNK rfl) (fun _ => .nil) ⟨_, rfl, rfl, hb⟩
theorem rringsof_v (v w : Value) (V : List Vec3) (Fs : List Fac3) (z : Int) (hM : MOk V Fs) (hz : -100000 ≤ z ∧ z ≤ 100000) : ACalls Tryz.prog 15 [mshA v w V Fs, .c (I z)] [] fun u H => ∃ (q : Value) (A : List (Value × List P2)) (cs : List Con), u = .t [.c (.r q (rgR A)), .c (I (regF (rgL V z cs)))] ∧ H = [] ∧ IsConts (sgL V Fs z) cs ∧ A.map Prod.snd = if regF (rgL V z cs) = 0 then rgL V z cs else [] := by
 refine acalls_of (N := 21) Tryz.func15 rfl rfl (by simp) fun E hE => ?_
 refine WA ?_
 refine WR ?_
 refine al_ef rfl (ef_call0 false (fun _ => ringsb_v v w V Fs z hM hz) rfl .fn rfl (by decide) (by kernel_rfl) rfl (fun _ => C0 rfl) (by simp)) ?_
 rintro _ _ ⟨_, _, _, ⟨q, A, cs, rfl, rfl, hA, hcs⟩, hF, hH⟩
 (refine NST hF hH ?_; clear hF hH; rintro rfl rfl)
 refine WE ?_
 obtain ⟨hl1, hl2⟩ := rgL_ok hM hcs
 have hAe : A.length = (rgL V z cs).length := by rw [← hA, List.length_map]
 have hAl : ∀ p ∈ A, p.2.length ≤ 2000 ∧ ∀ q ∈ p.2, q.in := fun p hp => by
  obtain ⟨h1, h2⟩ := hl2 p.2 (hA ▸ List.mem_map.2 ⟨p, hp, rfl⟩)
  exact ⟨by omega, h2⟩
 refine WR ?_
 refine al_ef rfl (ef_call0 false (fun _ => rregion_v A q (fun p hp => (hAl p hp).1) (by omega) (fun p hp => (hAl p hp).2)) rfl .fn rfl (by decide) (by kernel_rfl) rfl (fun _ => C0 rfl) (by simp)) ?_
 rintro _ _ ⟨_, _, _, ⟨rfl, rfl⟩, hF, hH⟩
 (refine NST hF hH ?_; clear hF hH; rintro rfl rfl)
 refine WE ?_
 rw [hA]
 refine WA ?_
 refine aw_if rfl (fun h0 => ?_) (fun h0 => ?_)
 ·refine WA ?_
  exact aret_2 [] _ rfl rfl rfl rfl rfl (by decide) (ZNK rfl) (fun _ => .nil) ⟨_, [], cs, rfl, rfl, hcs, by rw [if_neg h0]; rfl⟩
 have h0 : regF (rgL V z cs) = 0 := by omega
 refine ZZ ?_
 refine WA ?_
 exact aret_2 [] _ rfl rfl rfl rfl rfl (by decide) (ZNK rfl) (fun _ => .nil) ⟨q, A, cs, by rw [h0], rfl, hcs, by rw [if_pos h0]; exact hA⟩
set_option maxHeartbeats 2000000 in
theorem rdoubled_v (v w : Value) (V : List Vec3) (Fs : List Fac3) (z : Int) (hM : MOk V Fs) (hz : -100000 ≤ z ∧ z ≤ 100000) : ACalls Tryz.prog 16 [mshA v w V Fs, .c (I z)] [] fun u H => ∃ cs : List Con, u = .t [.c (I (sumD (rgL V z cs))), .c (I (lfN V z cs))] ∧ H = [] ∧ IsConts (sgL V Fs z) cs := by
 refine acalls_of (N := 30) Tryz.func16 rfl rfl (by simp) fun E hE => ?_
 refine WA ?_
 refine WR ?_
 refine al_ef rfl (ef_call0 false (fun _ => ringsb_v v w V Fs z hM hz) rfl .fn rfl (by decide) (by kernel_rfl) rfl (fun _ => C0 rfl) (by simp)) ?_
 rintro _ _ ⟨_, _, _, ⟨q, A, cs, rfl, rfl, hA, hcs⟩, hF, hH⟩
 (refine NST hF hH ?_; clear hF hH; rintro rfl rfl)
 refine WE ?_
 obtain ⟨hl1, hl2⟩ := rgL_ok hM hcs
 rw [← hA] at hl1 hl2
 have hAe : (A.map Prod.snd).length = A.length := by simp
 have e1 : (rgR A).length = A.length := by simp
 refine WA ?_
 refine WA ?_
 refine aw_loopw (fun m F H => ∃ (k : Nat), m + k = A.length ∧ (-100000000000000 * (k : Int) ≤ sumD ((A.map Prod.snd).take k) ∧ sumD ((A.map Prod.snd).take k) ≤ 100000000000000 * k) ∧ F = [(7, .c (I (lfN V z cs))), (8, .c (I (sumD ((A.map Prod.snd).take k)))), (17, .c (.r q (rgR A))), (18, .c (I (rgR A).length)), (19, .c (I k))] ∧ H = []) ?_ ?_
 ·refine wk_of [] (fun _ => [(7, .c (I (lfN V z cs))), (8, .c (I (sumD ((A.map Prod.snd).take 0)))), (17, .c (.r q (rgR A))), (18, .c (I (rgR A).length)), (19, .c (I (0 : Nat)))]) (fun _ => []) (by decide) (ZNL hE) ZCF (fun _ => .nil) (fun _ => ?_)
  exact ⟨A.length, 0, by omega, by simp [sumD], rfl, rfl⟩
 rintro m F H ⟨k, hk, hb, rfl, rfl⟩
 refine WA ?_
 refine aw_if rfl (fun hlt => ?_) (fun hge => ?_)
 ·obtain ⟨p, hp⟩ : ∃ z, A[k]? = some z := ⟨_, List.getElem?_eq_getElem (by omega)⟩
  obtain ⟨hrl, hri⟩ := hl2 p.2 (List.mem_map.2 ⟨p, List.mem_of_getElem? hp, rfl⟩)
  have hnx := sumD_next (rs := A.map Prod.snd) (k := k) (r := p.2) (by rw [List.getElem?_map, hp]; rfl)
  obtain ⟨qv, r⟩ := p
  simp only at hrl hri hnx
  have hrow : (rgR A)[k]? = some [.r qv (pR r)] := by rw [List.getElem?_map, hp]; rfl
  have hdb := dblF_in hrl hri
  generalize sumD ((A.map Prod.snd).take k) = T at hb hnx ⊢
  refine WA ?_
  refine WR ?_
  refine al_ef rfl (ef_call0 false (fun _ => rdbl_v r qv (by omega) hri) rfl .fn rfl (by decide) (by kernel_rfl) rfl (fun _ => C0 rfl) (by simp)) ?_
  rintro _ _ ⟨_, _, _, ⟨rfl, rfl⟩, hF, hH⟩
  (refine NST hF hH ?_; clear hF hH; rintro rfl rfl)
  refine WE ?_
  refine WA ?_
  refine wk_of [] (fun _ => [(7, .c (I (lfN V z cs))), (8, .c (I (T + dblF r))), (17, .c (.r q (rgR A))), (18, .c (I (rgR A).length)), (19, .c (I (k + 1 : Nat)))]) (fun _ => []) (by decide) (ZNL hE) ZCF (fun _ => .nil) (fun _ => ?_)
  exact ⟨m - 1, by omega, k + 1, by omega, by omega, by rw [hnx], rfl⟩
 obtain rfl : k = A.length := by omega
 rw [List.take_of_length_le (by simp), hA]
 refine ZZ ?_
 refine WA ?_
 exact aret_2 [] _ rfl rfl rfl rfl rfl (by decide) (ZNK rfl) (fun _ => .nil) ⟨cs, rfl, rfl, hcs⟩
end Go.Proofs.YtlblimbelfenaaaGreat

/- Planes of the stream, by value. -/
-- NEWM
namespace Go.Proofs.YtlblimbelfenaaaGreat
open Go Go.RowKit
set_option maxRecDepth 100000
theorem aplane_v (v : Value) (zs : List Int) (a : Int) (q w : Value) (V : List Vec3) (Fs : List Fac3) (hs : StrOk zs) (h0 : 0 ≤ a) (h1 : a ≤ 800000000) (hV : V.length ≤ 1000000) : ACalls Tryz.prog 9 [.p 0 0 0, mshA q w V Fs] [strm v zs a] fun u H => ∃ (r a' : Int), u = .c (I r) ∧ H = [strm v zs a'] ∧ a ≤ a' ∧ a' ≤ a + 10 := by
 have e1 : (V.map Vec3.row).length = V.length := by simp
 have e2 : (vR V).length = V.length := by simp
 refine acalls_of (N := 36) Tryz.func9 rfl rfl (by simp) fun E hE => ?_
 refine WA ?_
 refine WR ?_
 refine al_ef rfl (ef_callm true (fun _ => pick_a [0, 1, 2, 3, 5, -1, 10, 100] _ _ _ _ hs (by omega) (by omega) (by simp) (by simp)) rfl .fn rfl (by decide) (by kernel_rfl) rfl rfl (fun _g => .cons (.p rfl) (.cons (.frz rfl rfl rfl rfl rfl) .nil)) (fun _g => .cons (.c rfl) (.cons (.c rfl) .nil)) (fun _ _ _ _ ⟨_, hu, hH, _⟩ => by rw [hu, hH]; exact ⟨.c (.inl trivial), strm_flat (.inr ⟨0, _, rfl, by simp⟩)⟩)) ?_
 rintro F1 H1 ⟨_, _, _, _, ⟨rr, rfl, hq, hrm⟩, hF, hH⟩
 injection hq with hq1 hq2; subst hq1; subst hq2
 (refine NST hF hH ?_; clear hF hH; rintro rfl rfl)
 have h64r : in64 rr := by simp only [List.mem_cons, List.not_mem_nil, or_false] at hrm; simp only [in64] at *; omega
 clear hrm
 refine WE ?_
 obtain ⟨r1, hr1'⟩ : ∃ o, o = rr := ⟨_, rfl⟩
 rw [← hr1']
 refine aw_wk (wk_of (K := fun F H => F = [(0, .p 0 0 0), (3, .p 1 0 0), (5, .c (I r1))] ∧ H = [strm v zs (a + 1), mBox q w V (fR Fs)]) [some 0, some 1] (fun _ => [(0, .p 0 0 0), (3, .p 1 0 0), (5, .c (I r1))]) (fun _ => [strm v zs (a + 1), mBox q w V (fR Fs)]) (by decide) (ZNL hE) ZCF ZCH (fun _ => ⟨rfl, rfl⟩)) ?_
 rintro F H ⟨rfl, rfl⟩
 refine aw_cut (fun F H => ∃ (a' : Int) (b : Bool), a ≤ a' ∧ a' ≤ a + 3 ∧ (b = true → 0 < V.length) ∧ F = [(0, .p 0 0 0), (3, .p 1 0 0), (5, .c (I r1)), (16, .c (B b))] ∧ H = [strm v zs a', mBox q w V (fR Fs)]) ?_ ?_ wk_aw
 ·by_cases hV0 : 0 < V.length
  ·refine WR ?_
   refine G1 rfl ?_
   refine al_ef rfl (ef_callm false (fun _ => flip_a 3 _ _ _ hs (by omega) (by omega) (by simp only [in64]; omega)) rfl .fn rfl (by decide) (by kernel_rfl) rfl rfl (fun _g => .cons (.p rfl) (.cons (.c rfl) .nil)) (fun _g => .cons (.c rfl) (.cons (.c rfl) .nil)) (by simp)) ?_
   rintro F1 H1 ⟨_, _, _, _, ⟨bb, rfl, hq⟩, hF, hH⟩
   injection hq with hq1 hq2; subst hq1; subst hq2
   (refine NST hF hH ?_; clear hF hH; rintro rfl rfl)
   refine WE ?_
   refine wk_of [some 0, some 1] (fun _ => [(0, .p 0 0 0), (3, .p 1 0 0), (5, .c (I r1)), (16, .c (B bb))]) (fun _ => _) (by decide) (ZNL hE) ZCF ZCH (fun _ => ?_)
   exact ⟨_, _, by omega, by omega, fun _ => hV0, rfl, rfl⟩
  ·refine WR ?_
   refine WE ?_
   refine wk_of [some 0, some 1] (fun _ => [(0, .p 0 0 0), (3, .p 1 0 0), (5, .c (I r1)), (16, .c (B false))]) (fun _ => _) (by decide) (ZNL hE) ZCF ZCH (fun _ => ?_)
   exact ⟨_, _, by omega, by omega, fun h => (by cases h), rfl, rfl⟩
 rintro F H ⟨a', b, ha1, ha2, hb, rfl, rfl⟩
 refine aw_cut (fun F H => ∃ (a' r : Int), a ≤ a' ∧ a' ≤ a + 6 ∧ F = [(0, .p 0 0 0), (5, .c (I r))] ∧ H = [strm v zs a']) ?_ ?_ wk_aw
 ·refine aw_cond rfl (fun hbb => ?_) (fun hbb => ?_)
  ·have hV0 := hb hbb
   refine ZZ ?_
   refine aw_regionM [[(0, none), (1, none), (2, none), (3, none), (4, none), (5, none), (10, none), (6, some [0, 1, 10]), (7, none), (8, none), (9, none), (11, some [0, 1, 2, 3, 4, 5, 10, 7, 8, 9]), (12, some [0, 1, 7, 8, 9]), (13, none), (14, none)], [(0, none), (1, none), (2, none), (3, none), (4, none), (5, none), (10, none), (11, some [0, 1, 2, 3, 4, 5, 10]), (6, some [0, 1, 10]), (7, none), (8, none), (9, none), (12, some [0, 1, 7, 8, 9]), (13, none), (14, none)]] hMixed (by kernel_rfl) ?_
   focus
    refine WM ?_
    refine am_two (by rfl) (by rfl) (by rfl) ?_ ?_
    rotate_left
    refine WM ?_
    refine am_ef (i := 6) (by rfl) (by rfl) rfl rfl (ef_callm false (fun _ => next_a ((V.map Vec3.row).length : Int) _ _ _ hs (by omega) (by omega) (by simp only [in64]; omega)) rfl .fn rfl (by decide) (by kernel_rfl) rfl rfl (fun _g => .cons (.p rfl) (.cons (.c rfl) .nil)) (fun _g => .cons (.c rfl) (.cons (.c rfl) .nil)) (by simp)) ?_
    rintro F1 H1 ⟨_, _, _, _, ⟨rr, rfl, hq, hr1, hr2⟩, hF, hH⟩
    injection hq with hq1 hq2; subst hq1; subst hq2
    (refine NST hF hH ?_; clear hF hH; rintro rfl rfl)
    obtain ⟨i, rfl⟩ : ∃ i : Nat, rr = i := ⟨rr.toNat, by omega⟩
    have hi2 := hr2 (by omega)
    have ra := vrow (V := V) (i := i) (by omega)
    refine ⟨AGX, ?_⟩
    refine WM ?_
    refine am_ef (i := 12) (by rfl) (by rfl) rfl rfl (ef_callm true (fun _ => pick_a [0, 0, 1, -1] _ _ _ _ hs (by omega) (by omega) (by simp) (by simp)) rfl .fn rfl (by decide) (by kernel_rfl) rfl rfl (fun _g => .cons (.p rfl) (.cons (.frz rfl rfl rfl rfl rfl) .nil)) (fun _g => .cons (.c rfl) (.cons (.c rfl) .nil)) (fun _ _ _ _ ⟨_, hu, hH, _⟩ => by rw [hu, hH]; exact ⟨.c (.inl trivial), strm_flat (.inr ⟨0, _, rfl, by simp⟩)⟩)) ?_
    rintro F1 H1 ⟨_, _, _, _, ⟨rr, rfl, hq, hrm⟩, hF, hH⟩
    injection hq with hq1 hq2; subst hq1; subst hq2
    (refine NST hF hH ?_; clear hF hH; rintro rfl rfl)
    have h64r : in64 rr := by simp only [List.mem_cons, List.not_mem_nil, or_false] at hrm; simp only [in64] at *; omega
    clear hrm
    refine ⟨AGX, ?_⟩
    refine WN ?_
    rotate_right
    refine am_ef (i := 6) (by rfl) (by rfl) rfl rfl (ef_callm false (fun _ => next_a ((V.map Vec3.row).length : Int) _ _ _ hs (by omega) (by omega) (by simp only [in64]; omega)) rfl .fn rfl (by decide) (by kernel_rfl) rfl rfl (fun _g => .cons (.p rfl) (.cons (.c rfl) .nil)) (fun _g => .cons (.c rfl) (.cons (.c rfl) .nil)) (by simp)) ?_
    rintro F1 H1 ⟨_, _, _, _, ⟨rr, rfl, hq, hr1, hr2⟩, hF, hH⟩
    injection hq with hq1 hq2; subst hq1; subst hq2
    (refine NST hF hH ?_; clear hF hH; rintro rfl rfl)
    obtain ⟨i, rfl⟩ : ∃ i : Nat, rr = i := ⟨rr.toNat, by omega⟩
    have hi2 := hr2 (by omega)
    have ra := vrow (V := V) (i := i) (by omega)
    refine ⟨AGX, ?_⟩
    refine WM ?_
    refine am_ef (i := 12) (by rfl) (by rfl) rfl rfl (ef_callm true (fun _ => pick_a [0, 0, 1, -1] _ _ _ _ hs (by omega) (by omega) (by simp) (by simp)) rfl .fn rfl (by decide) (by kernel_rfl) rfl rfl (fun _g => .cons (.p rfl) (.cons (.frz rfl rfl rfl rfl rfl) .nil)) (fun _g => .cons (.c rfl) (.cons (.c rfl) .nil)) (fun _ _ _ _ ⟨_, hu, hH, _⟩ => by rw [hu, hH]; exact ⟨.c (.inl trivial), strm_flat (.inr ⟨0, _, rfl, by simp⟩)⟩)) ?_
    rintro F1 H1 ⟨_, _, _, _, ⟨rr, rfl, hq, hrm⟩, hF, hH⟩
    injection hq with hq1 hq2; subst hq1; subst hq2
    (refine NST hF hH ?_; clear hF hH; rintro rfl rfl)
    have h64r : in64 rr := by simp only [List.mem_cons, List.not_mem_nil, or_false] at hrm; simp only [in64] at *; omega
    clear hrm
    refine ⟨AGX, ?_⟩
    refine WN ?_
   all_goals (exact wk_of [some 0] (fun _ => [(0, .p 0 0 0), (5, .c (I (wrap64 ((vx V i).z + rr))))]) (fun _ => [strm v zs (a' + 1 + 1)]) (by decide) (ZNL hE) ZCF ZCH (fun _ => ⟨_, _, by omega, by omega, rfl, rfl⟩))
  ·refine ZZ ?_
   refine wk_of [some 0] (fun _ => [(0, .p 0 0 0), (5, .c (I r1))]) (fun _ => _) (by decide) (ZNL hE) ZCF ZCH (fun _ => ?_)
   exact ⟨_, _, by omega, by omega, rfl, rfl⟩
 rintro F H ⟨a2, r2, ha3, ha4, rfl, rfl⟩
 refine WR ?_
 refine al_ef rfl (ef_callm false (fun _ => flip_a 25 _ _ _ hs (by omega) (by omega) (by simp only [in64]; omega)) rfl .fn rfl (by decide) (by kernel_rfl) rfl rfl (fun _g => .cons (.p rfl) (.cons (.c rfl) .nil)) (fun _g => .cons (.c rfl) (.cons (.c rfl) .nil)) (by simp)) ?_
 rintro F1 H1 ⟨_, _, _, _, ⟨bb, rfl, hq⟩, hF, hH⟩
 injection hq with hq1 hq2; subst hq1; subst hq2
 (refine NST hF hH ?_; clear hF hH; rintro rfl rfl)
 refine WE ?_
 refine aw_cond rfl (fun _ => ?_) (fun _ => ?_)
 ·refine WR ?_
  refine al_ef rfl (ef_callm false (fun _ => odd_a (-100000) 100000 _ _ _ hs (by omega) (by omega) (by omega) (by omega) (by omega) (by omega)) rfl .fn rfl (by decide) (by kernel_rfl) rfl rfl (fun _g => .cons (.p rfl) (.cons (.c rfl) (.cons (.c rfl) .nil))) (fun _g => .cons (.c rfl) (.cons (.c rfl) .nil)) (by simp)) ?_
  rintro F1 H1 ⟨_, _, _, _, ⟨rr, ar, rfl, hq, hr3, hr4, h64r⟩, hF, hH⟩
  injection hq with hq1 hq2; subst hq1; subst hq2
  (refine NST hF hH ?_; clear hF hH; rintro rfl rfl)
  refine WE ?_
  refine WA ?_
  exact aret_1 [some 0] _ rfl rfl rfl (by decide) (ZNK rfl) ZCH ⟨_, _, rfl, rfl, by omega, by omega⟩
 ·refine ZZ ?_
  refine WA ?_
  exact aret_1 [some 0] _ rfl rfl rfl (by decide) (ZNK rfl) ZCH ⟨_, _, rfl, rfl, by omega, by omega⟩
end Go.Proofs.YtlblimbelfenaaaGreat
