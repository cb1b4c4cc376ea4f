/- Peaks and times of legs, of the program and of its document, by value. -/
import Derived.Test.YtdmeohgojdfmoaaGreatDoorMe
import Derived.Test.YtdmeohgojdfmoaaGreatDoorMg
set_option linter.unusedSimpArgs false
set_option linter.unusedVariables false
namespace Go.Proofs.YtdmeohgojdfmoaaGreatDoor
open Go Go.RowKit
set_option maxRecDepth 100000
abbrev legD (l : List Leg) (i : Nat) : Leg := l.getD i ⟨0, 0⟩
def peakL (l : List Leg) (cs : List Int) (ch : Int) (i : Nat) : Int := peakF (spdL l cs ch i) (spdL l cs ch (i + 1)) (legD l i) ch
def ceilF (num den : Int) : Int := if 0 < num % den then num / den + 1 else num / den
def timeL (l : List Leg) (cs : List Int) (ch : Int) (i : Nat) : Int := ceilF (numF (spdL l cs ch i) (spdL l cs ch (i + 1)) (legD l i) ch) (denF (spdL l cs ch i) (spdL l cs ch (i + 1)) (legD l i) ch)
def upto (f : Nat → Int) (k : Nat) : List Int := (List.range k).map f
theorem upto_len (f : Nat → Int) (k : Nat) : (upto f k).length = k := by simp [upto]
theorem upto_next (f : Nat → Int) (k : Nat) : upto f k ++ [f k] = upto f (k + 1) := by simp [upto, List.range_succ]
def peaksS (l : List Leg) (cs : List Int) (ch : Int) : List Int := upto (peakL l cs ch) l.length
def timesS (l : List Leg) (cs : List Int) (ch : Int) : List Int := upto (timeL l cs ch) l.length
theorem faultL_ok {l : List Leg} {cs : List Int} {ch : Int} (h : faultL l cs ch = 0) : Right l cs ∧ 1 ≤ ch ∧ ch ≤ 10000000 := by
  unfold faultL at h
  split at h
  · omega
  · exact ⟨cornersF_ok (by omega), changeF_ok h⟩
theorem peaks_a (l : List Leg) (cs : List Int) (ch : Int) (v w : Value) (hl : l.length ≤ 1000000) (hcl : cs.length ≤ 1000000) : ACalls Tryz.prog 15 [.c (legs_r v l), .c (ints_r w cs), .c (I ch)] [] fun u H => ∃ v', u = .t [.c (ints_r v' (if faultL l cs ch = 0 then peaksS l cs ch else [])), .c (I (faultL l cs ch))] ∧ H = [] := by
  have e1 : (l.map Leg.row).length = l.length := by simp
  refine acalls_of (N := 48) Tryz.func15 rfl rfl (by simp) fun E hE => ?_
  refine WA ?_
  refine WR ?_
  refine al_ef rfl (ef_call0 false (fun _ => fault1_a l cs ch v w (by omega) (by omega)) rfl .fn rfl (by decide) (by kernel_rfl) rfl (fun _ => C0 rfl) (by simp)) ?_
  rintro _ _ ⟨_, _, _, ⟨rfl, rfl⟩, hF, hH⟩
  (try simp only [nsl, Nat.reduceAdd, Nat.reduceLT, Nat.reduceSub] at hF); (try simp only [nsl, Nat.reduceAdd, Nat.reduceLT, Nat.reduceSub] at hH); subst hF; subst hH
  refine WE ?_
  refine WA ?_
  refine aw_if rfl (fun hne => ?_) (fun heq => ?_)
  · refine WA ?_
    exact aret_2 [] _ rfl rfl rfl rfl rfl (by decide) (ZNK rfl) (fun _ => .nil) ⟨_, by rw [if_neg hne]; rfl, rfl⟩
  have h0 : faultL l cs ch = 0 := by omega
  obtain ⟨hr, hc⟩ := faultL_ok h0
  have e2 := speedsS_len l cs ch
  rw [if_pos h0]
  refine ZZ ?_
  refine WR ?_
  refine al_ef rfl (ef_call0 false (fun _ => speeds_a l cs ch v w hr hc) rfl .fn rfl (by decide) (by kernel_rfl) rfl (fun _ => C0 rfl) (by simp)) ?_
  rintro _ _ ⟨_, _, _, ⟨vv, rfl, rfl⟩, hF, hH⟩
  (try simp only [nsl, Nat.reduceAdd, Nat.reduceLT, Nat.reduceSub] at hF); (try simp only [nsl, Nat.reduceAdd, Nat.reduceLT, Nat.reduceSub] at hH); subst hF; subst hH
  refine WE ?_
  refine WA ?_
  refine WA ?_
  refine aw_loopw (fun m F H => ∃ (k c : Nat) (p : List Int), m + k = l.length ∧ p = upto (peakL l cs ch) k ∧ F = [(2, .c (I ch)), (9, .c (ints_r vv (speedsS l cs ch))), (10, .o 0 0 p.length c), (24, .c (legs_r v l)), (25, .c (I (l.map Leg.row).length)), (26, .c (I k))] ∧ H = [.arr 3 1 c (p.map fun z => [I z])]) ?_ ?_
  · refine wk_of [none] (fun _ => [(2, .c (I ch)), (9, .c (ints_r vv (speedsS l cs ch))), (10, .o 0 0 ([] : List Int).length 0), (24, .c (legs_r v l)), (25, .c (I (l.map Leg.row).length)), (26, .c (I (0 : Nat)))]) (fun _ => [.arr 3 1 0 (([] : List Int).map fun z => [I z])]) (by decide) (ZNL hE) ZCF ZCH (fun _ => ?_)
    exact ⟨l.length, 0, 0, [], by omega, rfl, rfl, rfl⟩
  rintro m F H ⟨k, c, p, hk, hp, rfl, rfl⟩
  have hpl : p.length = k := by rw [hp, upto_len]
  have n2 := hr.le
  refine WA ?_
  refine aw_if rfl (fun hlt => ?_) (fun hge => ?_)
  · obtain ⟨x, hx⟩ : ∃ x, l[k]? = some x := ⟨_, List.getElem?_eq_getElem (by omega)⟩
    have hxd : legD l k = x := getD_of hx
    have hxg := hr.legs x (List.mem_of_getElem? hx)
    have b1 := spdL_b hr ch k (by omega)
    have b2 := spdL_b hr ch (k + 1) (by omega)
    have r1 : (l.map Leg.row)[k]? = some [I x.long, I x.limit] := by rw [List.getElem?_map, hx]; rfl
    have r4 : ((speedsS l cs ch).map fun z => [I z])[k]? = some [I (spdL l cs ch k)] := by rw [List.getElem?_map, speedsS_get (by omega)]; rfl
    have r5 : ((speedsS l cs ch).map fun z => [I z])[k + 1]? = some [I (spdL l cs ch (k + 1))] := by rw [List.getElem?_map, speedsS_get (by omega)]; rfl
    refine WA ?_
    refine ZZ ?_
    refine aw_regionT [(0, none), (1, none), (2, none), (3, none), (4, none), (5, none), (6, none), (7, none), (8, none), (9, none), (10, none), (11, none), (12, some [0]), (13, some [0]), (14, some []), (15, none)] hMixed (by kernel_rfl) ?_
    iterate 7 refine WX2 ?_
    refine ZT rfl (rd_addz (z := ((k + 1 : Nat) : Int)) rfl rfl rfl (by omega) (by omega)) ?_
    refine WP ?_
    refine at_ef rfl rfl (ef_call0 false (fun _ => peak1_a (spdL l cs ch k) (spdL l cs ch (k + 1)) x ch b1 b2 hxg hc) rfl .fn rfl (by decide) (by kernel_rfl) rfl (fun _ => C0 rfl) (by simp)) ?_
    rintro _ _ ⟨_, _, _, ⟨rfl, rfl⟩, hF, hH⟩
    (try simp only [nsl, Nat.reduceAdd, Nat.reduceLT, Nat.reduceSub] at hF); (try simp only [nsl, Nat.reduceAdd, Nat.reduceLT, Nat.reduceSub] at hH); subst hF; subst hH
    refine ⟨ag_cons (by first | exact ag_rd rfl rfl rfl (rd_move rfl rfl) rfl) (ag_none), ?_⟩
    refine WP ?_
    refine at_ef rfl rfl (Zapp (KA (t := 22) rfl)) ?_
    rintro _ _ ⟨_, cc, hcc, rfl, rfl⟩
    refine ⟨ag_none, ?_⟩
    refine WQ ?_
    refine WA ?_
    refine wk_of [some 0] (fun _ => [(2, .c (I ch)), (9, .c (ints_r vv (speedsS l cs ch))), (10, .o 0 0 (p ++ [peakF (spdL l cs ch k) (spdL l cs ch (k + 1)) x ch]).length cc), (24, .c (legs_r v l)), (25, .c (I (l.map Leg.row).length)), (26, .c (I (k + 1 : Nat)))]) (fun _ => _) (by decide) (ZNL hE) ZCF ZCH (fun _ => ?_)
    exact ⟨m - 1, by omega, k + 1, cc, p ++ [peakF (spdL l cs ch k) (spdL l cs ch (k + 1)) x ch], by omega, by rw [← upto_next, hp, peakL, hxd], rfl, by rw [List.map_append]; rfl⟩
  obtain rfl : k = l.length := by omega
  refine ZZ ?_
  refine WA ?_
  exact aret_f2 [] [] rfl rfl rfl rfl rfl rfl (by rw [List.drop_zero, List.take_of_length_le (by simp)]) (by simp) (by decide) (by decide) (ZNK rfl) (fun _ => .nil) (fun v' => ⟨v', by rw [h0, hp]; rfl, rfl⟩)
theorem peaks_o (l : List Leg) (cs : List Int) (ch : Int) (v w : Value) (hl : l.length ≤ 1000000) (hcl : cs.length ≤ 1000000) (h0 : faultL l cs ch = 0) : ACalls Tryz.prog 15 [.c (legs_r v l), .c (ints_r w cs), .c (I ch)] [] fun u H => ∃ c : Nat, l.length ≤ c ∧ u = .t [.o 0 0 l.length c, .c (I 0)] ∧ H = [.arr 3 1 c ((peaksS l cs ch).map fun z => [I z])] := by
  have e1 : (l.map Leg.row).length = l.length := by simp
  refine acalls_of (N := 48) Tryz.func15 rfl rfl (by simp) fun E hE => ?_
  refine WA ?_
  refine WR ?_
  refine al_ef rfl (ef_call0 false (fun _ => fault1_a l cs ch v w (by omega) (by omega)) rfl .fn rfl (by decide) (by kernel_rfl) rfl (fun _ => C0 rfl) (by simp)) ?_
  rintro _ _ ⟨_, _, _, ⟨rfl, rfl⟩, hF, hH⟩
  (try simp only [nsl, Nat.reduceAdd, Nat.reduceLT, Nat.reduceSub] at hF); (try simp only [nsl, Nat.reduceAdd, Nat.reduceLT, Nat.reduceSub] at hH); subst hF; subst hH
  refine WE ?_
  refine WA ?_
  refine aw_cond_f rfl ?_
  obtain ⟨hr, hc⟩ := faultL_ok h0
  have e2 := speedsS_len l cs ch
  refine ZZ ?_
  refine WR ?_
  refine al_ef rfl (ef_call0 false (fun _ => speeds_a l cs ch v w hr hc) rfl .fn rfl (by decide) (by kernel_rfl) rfl (fun _ => C0 rfl) (by simp)) ?_
  rintro _ _ ⟨_, _, _, ⟨vv, rfl, rfl⟩, hF, hH⟩
  (try simp only [nsl, Nat.reduceAdd, Nat.reduceLT, Nat.reduceSub] at hF); (try simp only [nsl, Nat.reduceAdd, Nat.reduceLT, Nat.reduceSub] at hH); subst hF; subst hH
  refine WE ?_
  refine WA ?_
  refine WA ?_
  refine aw_loopw (fun m F H => ∃ (k c : Nat) (p : List Int), m + k = l.length ∧ p = upto (peakL l cs ch) k ∧ p.length ≤ c ∧ F = [(2, .c (I ch)), (9, .c (ints_r vv (speedsS l cs ch))), (10, .o 0 0 p.length c), (24, .c (legs_r v l)), (25, .c (I (l.map Leg.row).length)), (26, .c (I k))] ∧ H = [.arr 3 1 c (p.map fun z => [I z])]) ?_ ?_
  · refine wk_of [none] (fun _ => [(2, .c (I ch)), (9, .c (ints_r vv (speedsS l cs ch))), (10, .o 0 0 ([] : List Int).length 0), (24, .c (legs_r v l)), (25, .c (I (l.map Leg.row).length)), (26, .c (I (0 : Nat)))]) (fun _ => [.arr 3 1 0 (([] : List Int).map fun z => [I z])]) (by decide) (ZNL hE) ZCF ZCH (fun _ => ?_)
    exact ⟨l.length, 0, 0, [], by omega, rfl, Nat.le_refl _, rfl, rfl⟩
  rintro m F H ⟨k, c, p, hk, hp, hpc, rfl, rfl⟩
  have hpl : p.length = k := by rw [hp, upto_len]
  have n2 := hr.le
  refine WA ?_
  refine aw_if rfl (fun hlt => ?_) (fun hge => ?_)
  · obtain ⟨x, hx⟩ : ∃ x, l[k]? = some x := ⟨_, List.getElem?_eq_getElem (by omega)⟩
    have hxd : legD l k = x := getD_of hx
    have hxg := hr.legs x (List.mem_of_getElem? hx)
    have b1 := spdL_b hr ch k (by omega)
    have b2 := spdL_b hr ch (k + 1) (by omega)
    have r1 : (l.map Leg.row)[k]? = some [I x.long, I x.limit] := by rw [List.getElem?_map, hx]; rfl
    have r4 : ((speedsS l cs ch).map fun z => [I z])[k]? = some [I (spdL l cs ch k)] := by rw [List.getElem?_map, speedsS_get (by omega)]; rfl
    have r5 : ((speedsS l cs ch).map fun z => [I z])[k + 1]? = some [I (spdL l cs ch (k + 1))] := by rw [List.getElem?_map, speedsS_get (by omega)]; rfl
    refine WA ?_
    refine ZZ ?_
    refine aw_regionT [(0, none), (1, none), (2, none), (3, none), (4, none), (5, none), (6, none), (7, none), (8, none), (9, none), (10, none), (11, none), (12, some [0]), (13, some [0]), (14, some []), (15, none)] hMixed (by kernel_rfl) ?_
    iterate 7 refine WX2 ?_
    refine ZT rfl (rd_addz (z := ((k + 1 : Nat) : Int)) rfl rfl rfl (by omega) (by omega)) ?_
    refine WP ?_
    refine at_ef rfl rfl (ef_call0 false (fun _ => peak1_a (spdL l cs ch k) (spdL l cs ch (k + 1)) x ch b1 b2 hxg hc) rfl .fn rfl (by decide) (by kernel_rfl) rfl (fun _ => C0 rfl) (by simp)) ?_
    rintro _ _ ⟨_, _, _, ⟨rfl, rfl⟩, hF, hH⟩
    (try simp only [nsl, Nat.reduceAdd, Nat.reduceLT, Nat.reduceSub] at hF); (try simp only [nsl, Nat.reduceAdd, Nat.reduceLT, Nat.reduceSub] at hH); subst hF; subst hH
    refine ⟨ag_cons (by first | exact ag_rd rfl rfl rfl (rd_move rfl rfl) rfl) (ag_none), ?_⟩
    refine WP ?_
    refine at_ef rfl rfl (Zapp (KA (t := 22) rfl)) ?_
    rintro _ _ ⟨_, cc, hcc, rfl, rfl⟩
    refine ⟨ag_none, ?_⟩
    refine WQ ?_
    refine WA ?_
    refine wk_of [some 0] (fun _ => [(2, .c (I ch)), (9, .c (ints_r vv (speedsS l cs ch))), (10, .o 0 0 (p ++ [peakF (spdL l cs ch k) (spdL l cs ch (k + 1)) x ch]).length cc), (24, .c (legs_r v l)), (25, .c (I (l.map Leg.row).length)), (26, .c (I (k + 1 : Nat)))]) (fun _ => _) (by decide) (ZNL hE) ZCF ZCH (fun _ => ?_)
    exact ⟨m - 1, by omega, k + 1, cc, p ++ [peakF (spdL l cs ch k) (spdL l cs ch (k + 1)) x ch], by omega, by rw [← upto_next, hp, peakL, hxd], (by simp; omega), rfl, by rw [List.map_append]; rfl⟩
  obtain rfl : k = l.length := by omega
  refine ZZ ?_
  refine WA ?_
  have hpp : p = peaksS l cs ch := hp
  rw [← hpp]
  exact aret_of (us := [.o 0 0 p.length c, .c (I 0)]) [some 0] (fun _ => .t [.o 0 0 l.length c, .c (I 0)]) (fun _ => [.arr 3 1 c (p.map fun z => [I z])]) (.tmp rfl (.tmp rfl .nil)) (by decide) (ZNK rfl) (fun _ => .tL (.cons (.o rfl hpl) (.cons (.c rfl) .nil))) ZCH (fun _ => ⟨c, by omega, rfl, rfl⟩)
end Go.Proofs.YtdmeohgojdfmoaaGreatDoor
