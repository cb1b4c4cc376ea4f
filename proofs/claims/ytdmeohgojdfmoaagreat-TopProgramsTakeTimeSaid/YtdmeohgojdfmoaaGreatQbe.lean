/- Plain law: a program that moves along a path at one speed takes ten milliseconds a micrometre; the legs of the path take no less. -/
import Derived.Test.YtdmeohgojdfmoaaGreatQbd
import Derived.Test.YtdmeohgojdfmoaaGreatQba
import Derived.Test.YtdmeohgojdfmoaaGreatQbb
set_option linter.unusedSimpArgs false
set_option linter.unusedVariables false
/- Plain law: the other direction. -/
namespace Go.Proofs.YtdmeohgojdfmoaaGreat
open Go Go.RowKit
theorem faultL_zero {l : List Leg} {cs : List Int} {ch : Int} (h : Right l cs) (hc : 1 ≤ ch ∧ ch ≤ 10000000) : faultL l cs ch = 0 := by
  obtain ⟨h1, h2, h3, h4, h5⟩ := h
  have e1 : legsF l = 0 := by
    unfold legsF
    rw [if_neg (by omega), if_neg (by omega), if_neg]
    simp only [List.any_eq_true, not_exists, not_and, Bool.not_eq_true]
    exact fun x hx => legBad_iff.2 (h3 x hx)
  have e2 : cornersF l cs = 0 := by
    unfold cornersF
    rw [if_neg (by omega), if_neg (by omega), if_neg]
    simp only [List.any_eq_true, not_exists, not_and, Bool.not_eq_true]
    exact fun z hz => cornerBad_f (h5 z hz).1 (h5 z hz).2
  unfold faultL changeF
  rw [if_neg (by omega), if_pos hc]
theorem Right.rev {l : List Leg} {cs : List Int} (h : Right l cs) : Right l.reverse cs.reverse :=
  ⟨by simpa using h.ne, by simpa using h.le, fun x hx => h.legs x (List.mem_reverse.1 hx), by simpa using h.len, fun z hz => h.cor z (List.mem_reverse.1 hz)⟩
theorem getD_rev {α : Type} {l : List α} {i : Nat} {z : α} (h : i < l.length) : l.reverse.getD i z = l.getD (l.length - 1 - i) z := by
  rw [List.getD_eq_getElem?_getD, List.getD_eq_getElem?_getD, List.getElem?_reverse h]
theorem capL_rev {l : List Leg} {cs : List Int} (h : Right l cs) {i : Nat} (hi : i ≤ l.length) : capL l.reverse cs.reverse i = capL l cs (l.length - i) := by
  have hn := h.len
  unfold capL
  rw [List.length_reverse]
  by_cases h0 : i = 0 ∨ l.length ≤ i
  · rw [if_pos h0, if_pos (by omega)]
  · rw [if_neg h0, if_neg (by omega), getD_rev (by omega), getD_rev (by omega), getD_rev (by omega),
      show cs.length - 1 - (i - 1) = l.length - i - 1 from by omega, show l.length - 1 - (i - 1) = l.length - i from by omega, show l.length - 1 - i = l.length - i - 1 from by omega]
    omega
theorem disL_rev {l : List Leg} {ch : Int} {i : Nat} (hi : i < l.length) : disL l.reverse ch i = disL l ch (l.length - 1 - i) := by
  unfold disL
  rw [getD_rev hi]
theorem speedsS_rev {l : List Leg} {cs : List Int} {ch : Int} (h : Right l cs) (hc : 1 ≤ ch) : speedsS l.reverse cs.reverse ch = (speedsS l cs ch).reverse := by
  have hb := speedsS_best h hc
  have e : ∀ i, i ≤ l.length → (speedsS l cs ch).reverse.getD i 0 = spd l.length (capL l cs) (disL l ch) (l.length - i) := fun i hi => by
    rw [getD_rev (by rw [speedsS_len]; omega), speedsS_len, show l.length + 1 - 1 - i = l.length - i from by omega]
    exact getD_of (speedsS_get (by omega))
  refine (speedsS_uniq h.rev hc (by simp [speedsS_len]) ?_).symm
  rw [List.length_reverse]
  refine ⟨⟨fun i hi => ?_, fun i hi => ?_⟩, fun w hw i hi => ?_⟩
  · show 0 ≤ (speedsS l cs ch).reverse.getD i 0 ∧ (speedsS l cs ch).reverse.getD i 0 ≤ _
    rw [e i hi, capL_rev h hi]
    exact hb.1.1 _ (by omega)
  · show (speedsS l cs ch).reverse.getD (i + 1) 0 ≤ rt ((speedsS l cs ch).reverse.getD i 0) _ ∧ (speedsS l cs ch).reverse.getD i 0 ≤ rt ((speedsS l cs ch).reverse.getD (i + 1) 0) _
    rw [e i (by omega), e (i + 1) (by omega), disL_rev hi]
    have := hb.1.2 (l.length - 1 - i) (by omega)
    rw [show l.length - 1 - i + 1 = l.length - i from by omega] at this
    rw [show l.length - (i + 1) = l.length - 1 - i from by omega]
    exact ⟨this.2, this.1⟩
  · show w i ≤ (speedsS l cs ch).reverse.getD i 0
    rw [e i hi]
    have := hb.2 (fun j => w (l.length - j)) ⟨fun j hj => ?_, fun j hj => ?_⟩ (l.length - i) (by omega)
    · rw [show l.length - (l.length - i) = i from by omega] at this
      exact this
    · have := hw.1 (l.length - j) (by omega)
      rw [capL_rev h (by omega), show l.length - (l.length - j) = j from by omega] at this
      exact this
    · have := hw.2 (l.length - 1 - j) (by omega)
      rw [disL_rev (by omega), show l.length - 1 - (l.length - 1 - j) = j from by omega, show l.length - 1 - j + 1 = l.length - j from by omega] at this
      show w (l.length - (j + 1)) ≤ rt (w (l.length - j)) _ ∧ w (l.length - j) ≤ rt (w (l.length - (j + 1))) _
      rw [show l.length - (j + 1) = l.length - 1 - j from by omega]
      exact ⟨this.2, this.1⟩
theorem spdL_rev {l : List Leg} {cs : List Int} {ch : Int} (h : Right l cs) (hc : 1 ≤ ch) {i : Nat} (hi : i ≤ l.length) : spdL l.reverse cs.reverse ch i = spdL l cs ch (l.length - i) := by
  have h1 := congrArg (fun q => q[i]?) (speedsS_rev h hc)
  have h2 : (speedsS l.reverse cs.reverse ch)[i]? = some (spdL l.reverse cs.reverse ch i) := speedsS_get (by rw [List.length_reverse]; exact hi)
  have h3 : (speedsS l cs ch).reverse[i]? = some (spdL l cs ch (l.length - i)) := by
    rw [List.getElem?_reverse (by rw [speedsS_len]; omega), speedsS_len, show l.length + 1 - 1 - i = l.length - i from by omega]
    exact speedsS_get (by omega)
  rw [h2, h3] at h1
  exact Option.some.inj h1
theorem peakF_comm (f t : Int) (x : Leg) (ch : Int) : peakF f t x ch = peakF t f x ch := by unfold peakF; rw [Int.add_comm (f * f)]
theorem numF_comm (f t : Int) (x : Leg) (ch : Int) : numF f t x ch = numF t f x ch := by unfold numF; rw [peakF_comm f t, Int.add_comm ((peakF t f x ch - f) * _)]
theorem denF_comm (f t : Int) (x : Leg) (ch : Int) : denF f t x ch = denF t f x ch := by unfold denF; rw [peakF_comm]
theorem upto_rev {f g : Nat → Int} {n : Nat} (h : ∀ i, i < n → f i = g (n - 1 - i)) : upto f n = (upto g n).reverse := by
  refine List.ext_getElem? fun i => ?_
  by_cases hi : i < n
  · rw [List.getElem?_reverse (by rw [upto_len]; exact hi), upto_len]
    unfold upto
    rw [List.getElem?_map, List.getElem?_map, List.getElem?_range hi, List.getElem?_range (by omega)]
    simp only [Option.map_some]
    rw [h i hi]
  · rw [List.getElem?_eq_none (by rw [upto_len]; omega), List.getElem?_eq_none (by rw [List.length_reverse, upto_len]; omega)]
theorem peaksS_rev {l : List Leg} {cs : List Int} {ch : Int} (h : Right l cs) (hc : 1 ≤ ch) : peaksS l.reverse cs.reverse ch = (peaksS l cs ch).reverse := by
  unfold peaksS
  rw [List.length_reverse]
  refine upto_rev fun i hi => ?_
  unfold peakL
  rw [spdL_rev h hc (by omega), spdL_rev h hc (by omega), show legD l.reverse i = legD l (l.length - 1 - i) from getD_rev hi, peakF_comm,
    show l.length - (i + 1) = l.length - 1 - i from by omega, show l.length - 1 - i + 1 = l.length - i from by omega]
theorem timesS_rev {l : List Leg} {cs : List Int} {ch : Int} (h : Right l cs) (hc : 1 ≤ ch) : timesS l.reverse cs.reverse ch = (timesS l cs ch).reverse := by
  unfold timesS
  rw [List.length_reverse]
  refine upto_rev fun i hi => ?_
  unfold timeL
  rw [spdL_rev h hc (by omega), spdL_rev h hc (by omega), show legD l.reverse i = legD l (l.length - 1 - i) from getD_rev hi, numF_comm, denF_comm,
    show l.length - (i + 1) = l.length - 1 - i from by omega, show l.length - 1 - i + 1 = l.length - i from by omega]
theorem sumW_acc : ∀ (l : List Int) (a : Int), l.foldl (fun a x => wrap64 (a + x)) (wrap64 a) = wrap64 (a + l.sum)
  | [], a => by simp
  | x :: l, a => by
    rw [List.foldl_cons, List.sum_cons, ← Int.add_assoc, ← sumW_acc l (a + x)]
    congr 1
    unfold wrap64; omega
theorem sum_rev : ∀ (l : List Int), l.reverse.sum = l.sum
  | [] => rfl
  | x :: l => by rw [List.reverse_cons, List.sum_append, sum_rev l, List.sum_cons]; simp; omega
theorem sumW_rev (l : List Int) : sumW l.reverse = sumW l := by
  have h0 : wrap64 0 = 0 := by unfold wrap64; omega
  have h1 := sumW_acc l 0
  have h2 := sumW_acc l.reverse 0
  rw [h0] at h1 h2
  unfold sumW
  rw [h1, h2, sum_rev]
end Go.Proofs.YtdmeohgojdfmoaaGreat

/- Plain law: a program that moves along a path at one speed takes ten milliseconds a micrometre; the legs of the path take no less. -/
namespace Go.Proofs.YtdmeohgojdfmoaaGreat
open Go Go.RowKit
set_option maxRecDepth 100000
def spS (n : Int) : Step := ⟨6, 0, 0, 0, 0, n⟩
def mvS (p : Pt) : Step := ⟨3, p.x, p.y, 0, 0, 0⟩
/-- The program of a path. -/
def topS : List Pt → List Step
  | [] => [spS 100]
  | p :: r => [spS 100, spS 100000, mvS p, spS 100] ++ r.map mvS
theorem topS_snoc (l : List Pt) (q : Pt) (h : l ≠ []) : topS (l ++ [q]) = topS l ++ [mvS q] := by
  cases l with
  | nil => exact absurd rfl h
  | cons p r => simp [topS]
theorem topS_len (l : List Pt) : (topS l).length ≤ l.length + 4 := by
  cases l <;> simp [topS] <;> omega
/-- How long a program takes from a status on. -/
def timeR : Mach → List Step → Int
  | _, [] => 0
  | m, s :: l => timeE s m (afterS m s) + timeR (afterS m s) l
theorem timeR_app : ∀ (m : Mach) (a b : List Step), timeR m (a ++ b) = timeR m a + timeR (a.foldl afterS m) b
  | m, [], b => by simp [timeR]
  | m, s :: a, b => by
    simp only [List.cons_append, timeR, List.foldl_cons]
    rw [timeR_app]; omega
theorem timeK_R (l : List Step) : ∀ k, k ≤ l.length → timeK l k = timeR Mach.zero (l.take k)
  | 0, _ => by simp [timeK, timeR]
  | k + 1, hk => by
    obtain ⟨s, hs⟩ : ∃ s, l[k]? = some s := ⟨_, List.getElem?_eq_getElem (by omega)⟩
    rw [timeK_succ hs, timeK_R l k (by omega), take_nextk hs, timeR_app]
    congr 1
    simp only [timeR, lastS, List.foldl_append, List.foldl_cons, List.foldl_nil]
    omega
def atS (p : Pt) (v : Int) : Mach := ⟨p.x, p.y, 0, v, 0, 0, 0, false⟩
theorem after_sp (p : Pt) (v n : Int) : afterS (atS p v) (spS n) = atS p n := by
  simp [afterS, atS, spS]
theorem after_mv (p q : Pt) (v : Int) : afterS (atS p v) (mvS q) = atS q v := by
  have h0 : wrap64 (0 + 0) = 0 := by unfold wrap64; omega
  simp [afterS, atS, mvS, relS, h0]
  exact h0
theorem time_sp (p : Pt) (v n : Int) (hn : 0 < n) : timeE (spS n) (atS p v) (atS p n) = 0 := by
  have h1 : farS (atS p v) (atS p n) = 0 := by simp [farS, absI, atS]
  have hk : (spS n).k = 6 := rfl
  have hv : (atS p n).sp = n := rfl
  unfold timeE
  rw [h1, hv, if_neg (by rw [hk]; decide), if_pos hn, Int.ediv_eq_zero_of_lt (by omega) (by omega)]
  rfl
theorem far_mv (p q : Pt) (v : Int) : farS (atS p v) (atS q v) = distF p q := by
  unfold farS absI atS distF
  simp only
  omega
theorem dist_nn (p q : Pt) : 0 ≤ distF p q := by unfold distF; omega
theorem time_mv (p q : Pt) : timeE (mvS q) (atS p 100) (atS q 100) = 10 * distF p q := by
  have h1 := far_mv p q 100
  have h2 := dist_nn p q
  have hk : (mvS q).k = 3 := rfl
  have hv : (atS q 100).sp = 100 := rfl
  unfold timeE
  rw [h1, hv, if_neg (by rw [hk]; decide), if_pos (by decide)]
  omega
/-- How far it is along the path to its k-th point. -/
def wayK (l : List Pt) : Nat → Int
  | 0 => 0
  | k + 1 => wayK l k + match l[k]?, l[k + 1]? with
    | some a, some b => distF a b
    | _, _ => 0
theorem wayK_next {l : List Pt} {k : Nat} {a b : Pt} (ha : l[k]? = some a) (hb : l[k + 1]? = some b) : wayK l (k + 1) = wayK l k + distF a b := by
  rw [wayK, ha, hb]
theorem rest_time {l : List Pt} {p : Pt} (hp : l[0]? = some p) : ∀ k, k < l.length → timeR (atS p 100) (((l.drop 1).take k).map mvS) = 10 * wayK l k ∧ ∃ q, l[k]? = some q ∧ (((l.drop 1).take k).map mvS).foldl afterS (atS p 100) = atS q 100
  | 0, _ => ⟨by simp [timeR, wayK], p, hp, by simp⟩
  | k + 1, hk => by
    obtain ⟨h1, q, h2, h3⟩ := rest_time hp k (by omega)
    obtain ⟨b, hb⟩ : ∃ b, l[k + 1]? = some b := ⟨_, List.getElem?_eq_getElem (by omega)⟩
    have hd : (l.drop 1)[k]? = some b := by rw [List.getElem?_drop, Nat.add_comm]; exact hb
    rw [take_nextk hd, List.map_append, timeR_app, List.foldl_append, h3, h1, wayK_next h2 hb]
    simp only [List.map_cons, List.map_nil, timeR, List.foldl_cons, List.foldl_nil, after_mv, time_mv]
    exact ⟨by omega, b, hb, rfl⟩
theorem top_time {p : Pt} {r : List Pt} : timeR Mach.zero (topS (p :: r)) = timeR Mach.zero ((topS (p :: r)).take 3) + 10 * wayK (p :: r) r.length := by
  have e : topS (p :: r) = [spS 100, spS 100000, mvS p] ++ (spS 100 :: r.map mvS) := rfl
  have e3 : (topS (p :: r)).take 3 = [spS 100, spS 100000, mvS p] := rfl
  obtain ⟨h1, -⟩ := rest_time (l := p :: r) (p := p) rfl r.length (by simp)
  have hz : Mach.zero = atS ⟨0, 0⟩ 0 := rfl
  rw [e3, e, timeR_app]
  have hf : [spS 100, spS 100000, mvS p].foldl afterS Mach.zero = atS p 100000 := by
    simp only [List.foldl_cons, List.foldl_nil, hz, after_sp, after_mv]
  rw [hf]
  simp only [timeR, after_sp, time_sp p 100000 100 (by decide)]
  rw [List.drop_one, List.tail_cons, List.take_length] at h1
  omega
theorem leg_way (a b : Pt) (n : Int) : ((if b = a then [] else [b.sub a]).map fun q => (legPt n q).long).sum = distF a b := by
  split
  · rename_i h; subst h
    unfold distF; simp
  · simp only [List.map_cons, List.map_nil, List.sum_cons, List.sum_nil, legPt, Pt.sub, distF]
    omega
theorem dif_way (l : List Pt) (n : Int) : ∀ k, k < l.length → ((difF l k).map fun q => (legPt n q).long).sum = wayK l k
  | 0, _ => by simp [difF, wayK]
  | k + 1, hk => by
    obtain ⟨a, ha⟩ : ∃ a, l[k]? = some a := ⟨_, List.getElem?_eq_getElem (by omega)⟩
    obtain ⟨b, hb⟩ : ∃ b, l[k + 1]? = some b := ⟨_, List.getElem?_eq_getElem (by omega)⟩
    rw [difF_next ha hb, wayK_next ha hb, List.map_append, List.sum_append, leg_way, dif_way l n k (by omega)]
def longL (l : List Leg) : Int := (l.map Leg.long).sum
theorem longL_next {l : List Leg} {k : Nat} {x : Leg} (h : l[k]? = some x) : longL (l.take (k + 1)) = longL (l.take k) + x.long := by
  unfold longL
  rw [take_nextk h, List.map_append, List.sum_append]; simp
theorem legs_way {l : List Pt} (h : 1 ≤ l.length) (n : Int) : longL (legsPt l false n) = wayK l (l.length - 1) := by
  have := dif_way l n (l.length - 1) (by omega)
  rw [← this]
  unfold longL legsPt difs ringP
  simp [List.map_map, Function.comp_def]
theorem sp_good {n : Int} (h : 1 ≤ n ∧ n ≤ 100000) : faultS (spS n) = 0 := by
  unfold faultS spS
  simp only
  rw [if_neg (by omega), if_neg (by omega), if_neg (by omega), if_neg (by simp)]
theorem mv_good {p : Pt} (h : p.far = false) : faultS (mvS p) = 0 := by
  have h1 := Pt.near h
  unfold faultS mvS
  simp only
  rw [if_neg (by omega), if_neg (by omega), if_neg (by omega), if_neg (by omega)]
theorem firstF_all : ∀ {l : List Step}, (∀ s ∈ l, faultS s = 0) → firstF l = 0
  | [], _ => rfl
  | s :: l, h => by rw [firstF, if_pos (h s (by simp))]; exact firstF_all fun x hx => h x (by simp [hx])
theorem topS_fault {l : List Pt} (h : ∀ p ∈ l, p.far = false) : ∀ s ∈ topS l, faultS s = 0 := fun s hs => by
  cases l with
  | nil => simp only [topS, List.mem_singleton] at hs; subst hs; exact sp_good (by omega)
  | cons p r =>
    simp only [topS, List.cons_append, List.nil_append, List.mem_cons, List.mem_map] at hs
    rcases hs with rfl | rfl | rfl | rfl | ⟨q, hq, rfl⟩
    · exact sp_good (by omega)
    · exact sp_good (by omega)
    · exact mv_good (h p (by simp))
    · exact sp_good (by omega)
    · exact mv_good (h q (by simp [hq]))
theorem topS_ok {l : List Pt} (h : ∀ p ∈ l, p.far = false) : ∀ s ∈ topS l, s.ok := fun s hs => by
  have key : ∀ p : Pt, p.far = false → (mvS p).ok := fun p hp => by
    have := Pt.near hp
    unfold Step.ok mvS in64
    simp only
    omega
  have key2 : ∀ n : Int, 0 ≤ n ∧ n ≤ 100000 → (spS n).ok := fun n hn => by
    unfold Step.ok spS in64
    simp only
    omega
  cases l with
  | nil => simp only [topS, List.mem_singleton] at hs; subst hs; exact key2 _ (by omega)
  | cons p r =>
    simp only [topS, List.cons_append, List.nil_append, List.mem_cons, List.mem_map] at hs
    rcases hs with rfl | rfl | rfl | rfl | ⟨q, hq, rfl⟩
    · exact key2 _ (by omega)
    · exact key2 _ (by omega)
    · exact key p (h p (by simp))
    · exact key2 _ (by omega)
    · exact key q (h q (by simp [hq]))
theorem topS_prog {l : List Pt} (hl : l.length ≤ 500) (h : ∀ p ∈ l, p.far = false) : progF (topS l) = 0 ∧ progF ((topS l).take 3) = 0 := by
  have h1 := topS_len l
  have h2 := topS_fault h
  refine ⟨?_, ?_⟩
  · unfold progF; rw [if_neg (by omega)]; exact firstF_all h2
  · unfold progF; rw [if_neg (by rw [List.length_take]; omega)]; exact firstF_all fun s hs => h2 s (List.mem_of_mem_take hs)
/-- The first part of the law, in numbers. -/
theorem top_diff {l : List Pt} (h0 : 1 ≤ l.length) (hl : l.length ≤ 500) (h : ∀ p ∈ l, p.far = false) : timeF (topS l) = timeF ((topS l).take 3) + 10 * longL (legsPt l false 100) := by
  obtain ⟨p1, p2⟩ := topS_prog hl h
  unfold timeF
  rw [if_pos p1, if_pos p2, timeK_R _ _ (Nat.le_refl _), timeK_R _ _ (Nat.le_refl _), List.take_length, List.take_length, legs_way h0]
  cases l with
  | nil => simp at h0
  | cons p r =>
    rw [top_time]
    simp
theorem timeF_bnd {l : List Step} (h : progF l = 0) : 0 ≤ timeF l ∧ timeF l ≤ 30000000000000 * 5000 := by
  obtain ⟨h1, h2⟩ := progF_zero h
  have h3 := timeK_bnd h1 h2 l.length (Nat.le_refl _)
  unfold timeF
  rw [if_pos h]
  omega
/- ## The legs -/
theorem ceilF_geT {num den : Int} (h : 0 < den) : num ≤ ceilF num den * den ∧ ceilF num den * den ≤ num + den := by
  have h1 := Int.mul_ediv_add_emod num den
  have h2 := Int.emod_nonneg num (show den ≠ 0 by omega)
  have h3 := Int.emod_lt_of_pos num h
  rw [Int.mul_comm] at h1
  unfold ceilF
  split
  · rw [Int.add_mul]; omega
  · omega
theorem peak_timeT {f t : Int} {x : Leg} {ch : Int} (h0 : 0 ≤ f ∧ f ≤ 100000) (h1 : 0 ≤ t ∧ t ≤ 100000) (hx : x.good) (hc : 1 ≤ ch ∧ ch ≤ 10000000) :
    x.long * 1000000 ≤ ceilF (numF f t x ch) (denF f t x ch) * peakF f t x ch ∧ ceilF (numF f t x ch) (denF f t x ch) * peakF f t x ch ≤ 9000000000000000000 := by
  have hp := peakF_b (f := f) (t := t) hx hc
  have hd := dis_b hc hx
  have hx' := hx
  obtain ⟨hx1, hx2, hx3, hx4⟩ := hx'
  have hs := sq_b (a := peakF f t x ch - f) (by omega) (by omega)
  have ht := sq_b (a := peakF f t x ch - t) (by omega) (by omega)
  have hpb := prod_b (a := 2 * ch) (b := peakF f t x ch) (A := 20000000) (C := 100000) (by omega) (by omega) (by omega) (by omega)
  have hq : 0 < denF f t x ch := by unfold denF; exact Int.mul_pos (by omega) (by omega)
  obtain ⟨g1, g2⟩ := ceilF_geT (num := numF f t x ch) hq
  generalize hT : ceilF (numF f t x ch) (denF f t x ch) = T at *
  have e1 : T * denF f t x ch = 2 * ch * (T * peakF f t x ch) := by
    unfold denF
    rw [← Int.mul_assoc, Int.mul_comm T (2 * ch), Int.mul_assoc]
  have e2 : 2 * ch * (x.long * 1000000) = 1000000 * (2 * ch * x.long) := by
    rw [← Int.mul_assoc, Int.mul_comm _ (1000000 : Int)]
  have n1 : 1000000 * (2 * ch * x.long) ≤ numF f t x ch := by unfold numF; omega
  have n2 : numF f t x ch ≤ 1000000 * 4020000000000 := by unfold numF; omega
  have n3 : denF f t x ch ≤ 2000000000000 := by unfold denF; omega
  have k1 : x.long * 1000000 ≤ T * peakF f t x ch := by
    refine Int.le_of_mul_le_mul_left (a := 2 * ch) ?_ (by omega)
    rw [e2, ← e1]; omega
  refine ⟨k1, ?_⟩
  have k2 : 1 * (T * peakF f t x ch) ≤ 2 * ch * (T * peakF f t x ch) := Int.mul_le_mul_of_nonneg_right (by omega) (by omega)
  omega
theorem leg_time {f t : Int} {x : Leg} (h0 : 0 ≤ f ∧ f ≤ 100000) (h1 : 0 ≤ t ∧ t ≤ 100000) (hx : x.good) (hx2 : x.limit = 100) :
    10000 * x.long ≤ ceilF (numF f t x 10000000) (denF f t x 10000000) ∧ ceilF (numF f t x 10000000) (denF f t x 10000000) ≤ 300000000000 := by
  have hc : (1 : Int) ≤ 10000000 ∧ (10000000 : Int) ≤ 10000000 := by decide
  have hp := peakF_b (f := f) (t := t) hx hc
  have hd := dis_b hc hx
  obtain ⟨k1, -⟩ := peak_timeT h0 h1 hx hc
  obtain ⟨hx1, hx2', hx3, hx4⟩ := hx
  have hs := sq_b (a := peakF f t x 10000000 - f) (by omega) (by omega)
  have ht := sq_b (a := peakF f t x 10000000 - t) (by omega) (by omega)
  have n2 : numF f t x 10000000 ≤ 1000000 * 4020000000000 := by unfold numF; omega
  have dd : denF f t x 10000000 = 20000000 * peakF f t x 10000000 := by unfold denF; omega
  obtain ⟨-, g2⟩ := ceilF_geT (num := numF f t x 10000000) (den := denF f t x 10000000) (by omega)
  rw [dd] at g2
  rw [dd]
  rw [dd] at k1
  generalize ceilF (numF f t x 10000000) (20000000 * peakF f t x 10000000) = T at *
  generalize peakF f t x 10000000 = p at *
  have hT : 0 < T := by
    by_cases h : 0 < T
    · exact h
    · have := Int.mul_nonneg (a := -T) (b := p) (by omega) (by omega)
      rw [Int.neg_mul] at this
      omega
  have m1 : T * p ≤ T * 100 := Int.mul_le_mul_of_nonneg_left (by omega) (by omega)
  have m2 : T * 1 ≤ T * p := Int.mul_le_mul_of_nonneg_left (by omega) (by omega)
  have e1 : T * (20000000 * p) = 20000000 * (T * p) := by rw [← Int.mul_assoc, Int.mul_comm T 20000000, Int.mul_assoc]
  rw [e1] at g2
  omega
theorem times_sum {l : List Leg} {cs : List Int} (hr : Right l cs) (hl : ∀ x ∈ l, x.limit = 100) (hn : l.length ≤ 2000) : ∀ k, k ≤ l.length → 10000 * longL (l.take k) ≤ sumW ((timesS l cs 10000000).take k) ∧ sumW ((timesS l cs 10000000).take k) ≤ 300000000000 * k ∧ 0 ≤ longL (l.take k) ∧ longL (l.take k) ≤ 200000 * k
  | 0, _ => by simp [longL, sumW]
  | k + 1, hk => by
    obtain ⟨h1, h2, h3, h4⟩ := times_sum hr hl hn k (by omega)
    obtain ⟨x, hx⟩ : ∃ x, l[k]? = some x := ⟨_, List.getElem?_eq_getElem (by omega)⟩
    have hxm := List.mem_of_getElem? hx
    have hxg := hr.legs x hxm
    have hxd : legD l k = x := by unfold legD; rw [List.getD, hx]; rfl
    have ht : (timesS l cs 10000000)[k]? = some (timeL l cs 10000000 k) := by
      unfold timesS upto
      rw [List.getElem?_map, List.getElem?_range (by omega)]
      rfl
    have b1 := spdL_b hr 10000000 k (by omega)
    have b2 := spdL_b hr 10000000 (k + 1) (by omega)
    obtain ⟨q1, q2⟩ := leg_time b1 b2 hxg (hl x hxm)
    have q3 : timeL l cs 10000000 k = ceilF (numF (spdL l cs 10000000 k) (spdL l cs 10000000 (k + 1)) x 10000000) (denF (spdL l cs 10000000 k) (spdL l cs 10000000 (k + 1)) x 10000000) := by unfold timeL; rw [hxd]
    rw [← q3] at q1 q2
    obtain ⟨hx1, hx2, hx3, hx4⟩ := hxg
    have hw : wrap64 (sumW ((timesS l cs 10000000).take k) + timeL l cs 10000000 k) = sumW ((timesS l cs 10000000).take k) + timeL l cs 10000000 k := IntWalk.wrap64_in _ (by constructor <;> omega)
    rw [sumW_next ht, longL_next hx, hw]
    omega
theorem legs_right {l : List Pt} (h : movF l false 100 = 0) : Right (legsPt l false 100) (List.replicate ((legsPt l false 100).length - 1) 100) ∧ ∀ x ∈ legsPt l false 100, x.limit = 100 := by
  obtain ⟨hp, hd⟩ := movF_ok h
  obtain ⟨d1, d2⟩ := difs_ok (pathF_ok hp).1
  have hn : (legsPt l false 100).length = (difs l false).length := by simp [legsPt]
  refine ⟨⟨by omega, by omega, fun x hx => ?_, by rw [List.length_replicate]; omega, fun z hz => ?_⟩, fun x hx => ?_⟩
  · obtain ⟨q, hq, rfl⟩ := List.mem_map.1 hx
    obtain ⟨h1, h2⟩ := d2 q hq
    unfold Leg.good legPt
    simp only
    omega
  · rw [(List.mem_replicate.1 hz).2]; omega
  · obtain ⟨q, hq, rfl⟩ := List.mem_map.1 hx
    rfl
end Go.Proofs.YtdmeohgojdfmoaaGreat
