/- Contours of the program, by value. -/
import Derived.Test.YthanangkmjjbaaaGreatDoorQba
import Derived.Test.YthanangkmjjbaaaGreatDoorQbb
import Derived.Test.YthanangkmjjbaaaGreatDoorQay
import Derived.Test.YthanangkmjjbaaaGreatDoorQas
set_option linter.unusedSimpArgs false
set_option linter.unusedVariables false
/- Rings of closed contours: rounded points, no point twice in a row, twice the area; plain. -/
namespace Go.Proofs.YthanangkmjjbaaaGreatDoor
/- ## Plain: a cut lies between both ends -/
theorem cutN_between (p q za zb z : Int) (h1 : za < z) (h2 : z ≤ zb) : min p q * (zb - za) ≤ cutN p q za zb z ∧ cutN p q za zb z ≤ max p q * (zb - za) := by
  have e : cutN p q za zb z = p * (zb - za) + (q - p) * (z - za) := rfl
  have e2 : cutN p q za zb z = q * (zb - za) + (p - q) * (zb - z) := by
    rw [e, show zb - z = (zb - za) - (z - za) by omega]
    generalize zb - za = D
    generalize z - za = t
    rw [Int.mul_sub (p - q) D t, Int.sub_mul q p t, Int.sub_mul p q D, Int.sub_mul p q t]
    omega
  rcases Int.le_total p q with h | h
  · have k1 : 0 ≤ (q - p) * (z - za) := Int.mul_nonneg (by omega) (by omega)
    have k2 : 0 ≤ (q - p) * (zb - z) := Int.mul_nonneg (by omega) (by omega)
    have k3 : (p - q) * (zb - z) = -((q - p) * (zb - z)) := by rw [← Int.neg_mul]; congr 1; omega
    rw [show min p q = p by omega, show max p q = q by omega]
    omega
  · have k1 : 0 ≤ (p - q) * (z - za) := Int.mul_nonneg (by omega) (by omega)
    have k2 : 0 ≤ (p - q) * (zb - z) := Int.mul_nonneg (by omega) (by omega)
    have k3 : (q - p) * (z - za) = -((p - q) * (z - za)) := by rw [← Int.neg_mul]; congr 1; omega
    rw [show min p q = q by omega, show max p q = p by omega]
    omega
theorem low_between (p q za zb z : Int) (h1 : za < z) (h2 : z ≤ zb) : min p q * (lowF (cutN p q za zb z) (zb - za)).d ≤ (lowF (cutN p q za zb z) (zb - za)).n ∧ (lowF (cutN p q za zb z) (zb - za)).n ≤ max p q * (lowF (cutN p q za zb z) (zb - za)).d ∧ 1 ≤ (lowF (cutN p q za zb z) (zb - za)).d ∧ (lowF (cutN p q za zb z) (zb - za)).d ≤ zb - za := by
  obtain ⟨b1, b2⟩ := cutN_between p q za zb z h1 h2
  generalize cutN p q za zb z = N at b1 b2 ⊢
  have hD : 1 ≤ zb - za := by omega
  generalize zb - za = D at b1 b2 hD ⊢
  have hg := gcd_pos' (n := N) hD
  have d1 : ((Int.gcd N D : Nat) : Int) ∣ N := Int.gcd_dvd_left ..
  have d2 : ((Int.gcd N D : Nat) : Int) ∣ D := Int.gcd_dvd_right ..
  have e1 : (lowF N D).n * (Int.gcd N D : Nat) = N := Int.tdiv_mul_cancel d1
  have e2 : (lowF N D).d * (Int.gcd N D : Nat) = D := Int.tdiv_mul_cancel d2
  generalize (lowF N D).n = n at e1 ⊢
  generalize (lowF N D).d = d at e2 ⊢
  generalize ((Int.gcd N D : Nat) : Int) = g at e1 e2 hg
  have c1 : min p q * d ≤ n := by
    refine Int.le_of_mul_le_mul_right (a := g) ?_ (by omega)
    rw [Int.mul_assoc, e2, e1]; exact b1
  have c2 : n ≤ max p q * d := by
    refine Int.le_of_mul_le_mul_right (a := g) ?_ (by omega)
    rw [Int.mul_assoc, e2, e1]; exact b2
  have c3 : 1 ≤ d := by
    rcases Int.lt_or_le 0 d with h | h
    · omega
    · have : d * g ≤ 0 * g := Int.mul_le_mul_of_nonneg_right h (by omega)
      omega
  refine ⟨c1, c2, c3, ?_⟩
  have : d * 1 ≤ d * g := Int.mul_le_mul_of_nonneg_left hg (by omega)
  omega

/- ## Points -/
structure P2 where
  x : Int
  y : Int
deriving DecidableEq
def P2.in (p : P2) : Prop := (-100000 ≤ p.x ∧ p.x ≤ 100000) ∧ (-100000 ≤ p.y ∧ p.y ≤ 100000)
def nearF (f : Fra) : Int := (2 * f.n + f.d) / (2 * f.d)
def ptV (V : List Vec3) (z : Int) (s : Sid2) : P2 := ⟨nearF (cutV V z s).x, nearF (cutV V z s).y⟩
theorem near_in {f : Fra} {lo hi : Int} (h1 : lo * f.d ≤ f.n) (h2 : f.n ≤ hi * f.d) (hd : 1 ≤ f.d) : lo ≤ nearF f ∧ nearF f ≤ hi := by
  unfold nearF
  constructor
  · rw [Int.le_ediv_iff_mul_le (by omega)]
    have : lo * (2 * f.d) = 2 * (lo * f.d) := by rw [Int.mul_left_comm]
    omega
  · have : (2 * f.n + f.d) / (2 * f.d) < hi + 1 := by
      rw [Int.ediv_lt_iff_lt_mul (by omega)]
      have : (hi + 1) * (2 * f.d) = 2 * (hi * f.d) + 2 * f.d := by rw [Int.add_mul, Int.mul_left_comm, Int.one_mul]
      omega
    omega
/-- The corners of a face that is cut are near. -/
theorem pt_in {V : List Vec3} {z : Int} {s : Sid2} (hn : ∀ i : Nat, i < V.length → (vx V i).in 100000) (hs : Cuts' V z s) : (ptV V z s).in := by
  obtain ⟨⟨a1, a2⟩, ⟨b1, b2⟩, h1, h2⟩ := hs
  obtain ⟨i, hi⟩ : ∃ i : Nat, s.f = i := ⟨s.f.toNat, by omega⟩
  obtain ⟨j, hj⟩ : ∃ i : Nat, s.t = i := ⟨s.t.toNat, by omega⟩
  have na := hn i (by omega)
  have nb := hn j (by omega)
  rw [← hi] at na
  rw [← hj] at nb
  have q1 := low_between (vx V s.f).x (vx V s.t).x (vx V s.f).z (vx V s.t).z z h1 h2
  have q2 := low_between (vx V s.f).y (vx V s.t).y (vx V s.f).z (vx V s.t).z z h1 h2
  have r1 := near_in q1.1 q1.2.1 q1.2.2.1
  have r2 := near_in q2.1 q2.2.1 q2.2.2.1
  unfold Vec3.in at na nb
  refine ⟨?_, ?_⟩
  · show -100000 ≤ nearF (cutV V z s).x ∧ nearF (cutV V z s).x ≤ 100000
    unfold cutV; simp only
    omega
  · show -100000 ≤ nearF (cutV V z s).y ∧ nearF (cutV V z s).y ≤ 100000
    unfold cutV; simp only
    omega
theorem low_small {n d M : Int} (h1 : -M ≤ n ∧ n ≤ M) (h2 : 1 ≤ d ∧ d ≤ M) : (-M ≤ (lowF n d).n ∧ (lowF n d).n ≤ M) ∧ 1 ≤ (lowF n d).d ∧ (lowF n d).d ≤ M := by
  have hg := gcd_pos' (n := n) h2.1
  have h3 : (n.tdiv (Int.gcd n d)).natAbs ≤ n.natAbs := Int.natAbs_tdiv_le_natAbs _ _
  have h4 : (d.tdiv (Int.gcd n d)).natAbs ≤ d.natAbs := Int.natAbs_tdiv_le_natAbs _ _
  have d2 : ((Int.gcd n d : Nat) : Int) ∣ d := Int.gcd_dvd_right ..
  have e2 : d.tdiv (Int.gcd n d) * (Int.gcd n d : Nat) = d := Int.tdiv_mul_cancel d2
  have h5 : 1 ≤ d.tdiv (Int.gcd n d) := by
    rcases Int.lt_or_le 0 (d.tdiv (Int.gcd n d)) with h | h
    · omega
    · have : d.tdiv (Int.gcd n d) * (Int.gcd n d : Nat) ≤ 0 * (Int.gcd n d : Nat) := Int.mul_le_mul_of_nonneg_right h (by omega)
      omega
  refine ⟨?_, ?_⟩
  · show -M ≤ n.tdiv (Int.gcd n d) ∧ n.tdiv (Int.gcd n d) ≤ M
    omega
  · show 1 ≤ d.tdiv (Int.gcd n d) ∧ d.tdiv (Int.gcd n d) ≤ M
    omega
theorem cut6_small {V : List Vec3} {Fs : List Fac3} {z : Int} {s : Sid2} (hM : MOk V Fs) (hs : Cuts' V z s) (hz : -100000 ≤ z ∧ z ≤ 100000) : ((-1000000000000000 ≤ (cutV V z s).x.n ∧ (cutV V z s).x.n ≤ 1000000000000000) ∧ 1 ≤ (cutV V z s).x.d ∧ (cutV V z s).x.d ≤ 1000000000000000) ∧ ((-1000000000000000 ≤ (cutV V z s).y.n ∧ (cutV V z s).y.n ≤ 1000000000000000) ∧ 1 ≤ (cutV V z s).y.d ∧ (cutV V z s).y.d ≤ 1000000000000000) := by
  obtain ⟨⟨a1, a2⟩, ⟨b1, b2⟩, h1, h2⟩ := hs
  obtain ⟨i, hi⟩ : ∃ i : Nat, s.f = i := ⟨s.f.toNat, by omega⟩
  obtain ⟨j, hj⟩ : ∃ i : Nat, s.t = i := ⟨s.t.toNat, by omega⟩
  have na := nearI hM.far (i := i) (by omega)
  have nb := nearI hM.far (i := j) (by omega)
  rw [← hi] at na
  rw [← hj] at nb
  unfold Vec3.in at na nb
  unfold cutV
  simp only
  generalize vx V s.f = a at *
  generalize vx V s.t = b at *
  have q : ∀ p q : Int, (-100000 ≤ p ∧ p ≤ 100000) → (-100000 ≤ q ∧ q ≤ 100000) → -1000000000000000 ≤ cutN p q a.z b.z z ∧ cutN p q a.z b.z z ≤ 1000000000000000 := fun p q hp hq => by
    unfold cutN
    have p1 : (p * (b.z - a.z)).natAbs ≤ 100000 * 200000 := by rw [Int.natAbs_mul]; exact Nat.mul_le_mul (by omega) (by omega)
    have p2 : ((q - p) * (z - a.z)).natAbs ≤ 200000 * 200000 := by rw [Int.natAbs_mul]; exact Nat.mul_le_mul (by omega) (by omega)
    omega
  exact ⟨low_small (q _ _ na.1 nb.1) (by omega), low_small (q _ _ na.2.1 nb.2.1) (by omega)⟩

/- ## The last point is not the first one -/
def trimN : Nat → List P2 → List P2
  | 0, l => l
  | n + 1, l => if 1 < l.length ∧ l.getLast? = l.head? then trimN n l.dropLast else l
def trimE (l : List P2) : List P2 := trimN l.length l
theorem trimE_step {l : List P2} (h1 : 1 < l.length) (h2 : l.getLast? = l.head?) : trimE l = trimE l.dropLast := by
  obtain ⟨n, hn⟩ : ∃ n, l.length = n + 1 := ⟨l.length - 1, by omega⟩
  have h3 : l.dropLast.length = n := by rw [List.length_dropLast]; omega
  unfold trimE
  rw [hn, h3, trimN, if_pos ⟨by omega, h2⟩]
theorem trimE_stop {l : List P2} (h : ¬ (1 < l.length ∧ l.getLast? = l.head?)) : trimE l = l := by
  unfold trimE
  cases e : l.length with
  | zero => rfl
  | succ n => rw [trimN, if_neg (by rw [e] at h; rw [e]; exact h)]
theorem trimN_sub : ∀ (n : Nat) (l : List P2), (trimN n l).Sublist l
  | 0, l => List.Sublist.refl _
  | n + 1, l => by
    unfold trimN
    split
    · exact (trimN_sub n _).trans (List.dropLast_sublist l)
    · exact List.Sublist.refl _
theorem trimE_sub (l : List P2) : (trimE l).Sublist l := trimN_sub _ _
def ringV (V : List Vec3) (z : Int) (c : List Sid2) : List P2 := trimE (compG (c.map (ptV V z)))
theorem compG_subl {α : Type} [DecidableEq α] : ∀ l : List α, (compG l).Sublist l
  | [] => .slnil
  | [_] => List.Sublist.refl _
  | x :: y :: l => by
    unfold compG
    split
    · exact (compG_subl (y :: l)).cons _
    · exact (compG_subl (y :: l)).cons_cons _
theorem ringV_sub (V : List Vec3) (z : Int) (c : List Sid2) : (ringV V z c).Sublist (c.map (ptV V z)) := (trimE_sub _).trans (compG_subl _)

/- ## Twice the area -/
def ptA (l : List P2) (i : Nat) : P2 := l.getD i ⟨0, 0⟩
def crP (p q : P2) : Int := p.x * q.y - p.y * q.x
def dblN (l : List P2) : Nat → Int
  | 0 => 0
  | k + 1 => dblN l k + crP (ptA l k) (ptA l ((k + 1) % l.length))
def dblF (l : List P2) : Int := dblN l l.length
theorem ptA_get {l : List P2} {i : Nat} (h : i < l.length) : l[i]? = some (ptA l i) := by
  unfold ptA; rw [List.getD_eq_getElem?_getD, List.getElem?_eq_getElem h]; rfl
theorem ptA_in {l : List P2} (hl : ∀ p ∈ l, p.in) {i : Nat} (h : i < l.length) : (ptA l i).in := hl _ (List.mem_of_getElem? (ptA_get h))
theorem crP_in {p q : P2} (hp : p.in) (hq : q.in) : (-10000000000 ≤ p.x * q.y ∧ p.x * q.y ≤ 10000000000) ∧ (-10000000000 ≤ p.y * q.x ∧ p.y * q.x ≤ 10000000000) := by
  unfold P2.in at hp hq
  have h1 : (p.x * q.y).natAbs ≤ 100000 * 100000 := by rw [Int.natAbs_mul]; exact Nat.mul_le_mul (by omega) (by omega)
  have h2 : (p.y * q.x).natAbs ≤ 100000 * 100000 := by rw [Int.natAbs_mul]; exact Nat.mul_le_mul (by omega) (by omega)
  omega
theorem dblN_in {l : List P2} (hl : ∀ p ∈ l, p.in) : ∀ k : Nat, k ≤ l.length → -20000000000 * (k : Int) ≤ dblN l k ∧ dblN l k ≤ 20000000000 * k
  | 0, _ => by simp [dblN]
  | k + 1, h => by
    have ih := dblN_in hl k (by omega)
    have h1 := crP_in (ptA_in hl (i := k) (by omega)) (ptA_in hl (i := (k + 1) % l.length) (Nat.mod_lt _ (by omega)))
    unfold dblN crP
    omega
end Go.Proofs.YthanangkmjjbaaaGreatDoor

/- Faults of planes, orders of sides, planes of the stream, by value. -/
-- NEWM
namespace Go.Proofs.YthanangkmjjbaaaGreatDoor
open Go Go.RowKit
set_option maxRecDepth 100000
theorem sfar_v (n : Int) : ACalls Tryz.prog 104 [.c (I n)] [] fun u H => u = .c (B (farI n)) ∧ H = [] := by
  refine acalls_of (N := 5) Tryz.func104 rfl rfl (by simp) fun E hE => ?_
  repeat' (first
    | (with_reducible refine aw_seq ?_) | (with_reducible refine aseq_n ?_) | (with_reducible refine aseq_r ?_) | (with_reducible refine ablk_n ?_) | (with_reducible refine ablk_r ?_) | (with_reducible refine ablk_e ?_) | (with_reducible refine ablk_o rfl ?_) | (with_reducible refine aseq_e ?_) | (with_reducible refine aw_skip ?_) | (with_reducible refine aw_block ?_) | (with_reducible refine aw_ret ?_) | (with_reducible refine aw_exit ?_)
    | refine aw_cond_t rfl ?_ | refine aw_cond_f rfl ?_ | refine aw_if_t rfl (by assumption) ?_ | refine aw_if_f rfl (by assumption) ?_ | refine aw_if rfl (fun _ => ?_) (fun _ => ?_) | refine aw_cond rfl (fun _ => ?_) (fun _ => ?_)
    | (refine aw_region (id := 1) ?_
       refine WO ?_
       refine al_ef rfl (ef_call0 false (fun _ => outside_v _ _ _) rfl .fn rfl (by decide) (by kernel_rfl) rfl (fun _g => .cons (.c rfl) (.cons (.c rfl) (.cons (.c rfl) .nil))) (by simp)) ?_
       rintro _ _ ⟨_, _, _, ⟨rfl, rfl⟩, hF, hH⟩
       (try simp only [nsl, Nat.reduceAdd, Nat.reduceLT, Nat.reduceSub] at hF); (try simp only [nsl, Nat.reduceAdd, Nat.reduceLT, Nat.reduceSub] at hH); subst hF; subst hH
       refine WE ?_)
    | (refine aw_region ?_; refine WE ?_))
  refine aret_1 [] _ rfl rfl rfl (by decide) (ZNK rfl) (fun _ => .nil) ⟨rfl, rfl⟩
theorem anyG_drop {α : Type} (p : α → Bool) {l : List α} {k : Nat} {n : α} (h : l[k]? = some n) : (l.drop k).any p = (p n || (l.drop (k + 1)).any p) := by
  obtain ⟨h1, h2⟩ := List.getElem?_eq_some_iff.1 h
  rw [List.drop_eq_getElem_cons h1, h2, List.any_cons]
theorem idxFar_v (l : List Int) (v : Value) (hl : l.length ≤ 1000000) : ACalls Tryz.prog 148 [.c (.r v (zR l)), .f (.func 104) []] [] fun u H => ∃ r : Int, u = .c (I r) ∧ H = [] ∧ (0 ≤ r ↔ l.any farI = true) := by
  have e1 : (zR l).length = l.length := by simp
  refine acalls_of (N := 19) Tryz.func148 rfl rfl (by simp) fun E hE => ?_
  refine WA ?_
  refine WA ?_
  refine aw_loopw (fun m F H => ∃ (k : Nat), m + k = l.length ∧ (l.drop k).any farI = l.any farI ∧ F = [(0, .c (.r v (zR l))), (1, .f (.func 104) []), (7, .c (I (zR l).length)), (8, .c (I k))] ∧ H = []) ?_ ?_
  · refine wk_of [] (fun _ => [(0, .c (.r v (zR l))), (1, .f (.func 104) []), (7, .c (I (zR l).length)), (8, .c (I (0 : Nat)))]) (fun _ => _) (by decide) (ZNL hE) ZCF (fun _ => .nil) (fun _ => ?_)
    exact ⟨l.length, 0, by omega, rfl, rfl, rfl⟩
  rintro m F H ⟨k, hk, hf, rfl, rfl⟩
  refine WA ?_
  refine aw_if rfl (fun hlt => ?_) (fun hge => ?_)
  · obtain ⟨n, hn⟩ : ∃ n, l[k]? = some n := ⟨_, List.getElem?_eq_getElem (by omega)⟩
    have hrow : (zR l)[k]? = some [I n] := by rw [List.getElem?_map, hn]; rfl
    have hd := anyG_drop farI hn
    refine WA ?_
    refine WR ?_
    refine al_ef rfl (ef_call0 false (fun _ => sfar_v _) rfl (.clo rfl) rfl (by decide) (by kernel_rfl) rfl (fun _g => .cons (.c rfl) .nil) (by simp)) ?_
    rintro _ _ ⟨_, _, _, ⟨rfl, rfl⟩, hF, hH⟩
    (try simp only [nsl, Nat.reduceAdd, Nat.reduceLT, Nat.reduceSub] at hF); (try simp only [nsl, Nat.reduceAdd, Nat.reduceLT, Nat.reduceSub] at hH); subst hF; subst hH
    refine WE ?_
    refine aw_cond rfl (fun hv => ?_) (fun hv => ?_)
    · refine WA ?_
      refine aret_1 [] _ rfl rfl rfl (by decide) (ZNK rfl) (fun _ => .nil) ⟨_, rfl, rfl, ?_⟩
      rw [← hf, hd, hv]; simp
    · refine ZZ ?_
      refine WA ?_
      refine wk_of [] (fun _ => [(0, .c (.r v (zR l))), (1, .f (.func 104) []), (7, .c (I (zR l).length)), (8, .c (I (k + 1 : Nat)))]) (fun _ => _) (by decide) (ZNL hE) ZCF (fun _ => .nil) (fun _ => ?_)
      exact ⟨m - 1, by omega, k + 1, by omega, by rw [← hf, hd, hv, Bool.false_or], rfl, rfl⟩
  refine WA ?_
  refine aret_1 [] _ rfl rfl rfl (by decide) (ZNK rfl) (fun _ => .nil) ⟨_, rfl, rfl, ?_⟩
  rw [← hf, List.drop_eq_nil_of_le (by omega)]; simp
theorem hasFar_v (l : List Int) (v : Value) (hl : l.length ≤ 1000000) : ACalls Tryz.prog 103 [.c (.r v (zR l)), .f (.func 104) []] [] fun u H => u = .c (B (l.any farI)) ∧ H = [] := by
  refine acalls_of (N := 9) Tryz.func103 rfl rfl (by simp) fun E hE => ?_
  refine WA ?_
  refine WR ?_
  refine al_ef rfl (ef_call0 false (fun _ => idxFar_v l v hl) rfl .fn rfl (by decide) (by kernel_rfl) rfl (fun _g => .cons (.c rfl) (.cons (.fL .nil) .nil)) (by simp)) ?_
  rintro _ _ ⟨_, _, _, ⟨r, rfl, rfl, hr⟩, hF, hH⟩
  (try simp only [nsl, Nat.reduceAdd, Nat.reduceLT, Nat.reduceSub] at hF); (try simp only [nsl, Nat.reduceAdd, Nat.reduceLT, Nat.reduceSub] at hH); subst hF; subst hH
  refine WE ?_
  refine aret_1 [] _ rfl rfl rfl (by decide) (ZNK rfl) (fun _ => .nil) ⟨congrArg (fun z => AV.c (B z)) ?_, rfl⟩
  cases h : l.any farI
  · rw [h] at hr; simp at hr ⊢; omega
  · rw [h] at hr; simp at hr ⊢; omega
/-- What is wrong with planes. -/
def plnF (l : List Int) : Int := if l.any farI = true then 1 else 0
def pltF (V : List Vec3) (Fs : List Fac3) (l : List Int) : Int := if mshF V Fs ≠ 0 then mshF V Fs else plnF l
theorem sfault_v (v w q : Value) (V : List Vec3) (Fs : List Fac3) (l : List Int) (hVl : V.length ≤ 1000000) (hFl : Fs.length ≤ 1000000) (hl : l.length ≤ 1000000) : ACalls Tryz.prog 52 [mshA v w V Fs, .c (.r q (zR l))] [] fun u H => u = .c (I (pltF V Fs l)) ∧ H = [] := by
  refine acalls_of (N := 13) Tryz.func52 rfl rfl (by simp) fun E hE => ?_
  refine WA ?_
  refine WR ?_
  refine al_ef rfl (ef_call0 false (fun _ => checkmesh_v v w V Fs (by omega) (by omega)) rfl .fn rfl (by decide) (by kernel_rfl) rfl (fun _ => C0 rfl) (by simp)) ?_
  rintro _ _ ⟨_, _, _, ⟨rfl, rfl⟩, hF, hH⟩
  (try simp only [nsl, Nat.reduceAdd, Nat.reduceLT, Nat.reduceSub] at hF); (try simp only [nsl, Nat.reduceAdd, Nat.reduceLT, Nat.reduceSub] at hH); subst hF; subst hH
  refine WE ?_
  refine WA ?_
  refine aw_if rfl (fun h0 => ?_) (fun h0 => ?_)
  · refine WA ?_
    exact aret_1 [] _ rfl rfl rfl (by decide) (ZNK rfl) (fun _ => .nil) ⟨by rw [pltF, if_pos h0], rfl⟩
  · refine ZZ ?_
    refine WR ?_
    refine al_ef rfl (ef_call0 false (fun _ => hasFar_v l q hl) rfl .fn rfl (by decide) (by kernel_rfl) rfl (fun _g => .cons (.c rfl) (.cons (.fL .nil) .nil)) (by simp)) ?_
    rintro _ _ ⟨_, _, _, ⟨rfl, rfl⟩, hF, hH⟩
    (try simp only [nsl, Nat.reduceAdd, Nat.reduceLT, Nat.reduceSub] at hF); (try simp only [nsl, Nat.reduceAdd, Nat.reduceLT, Nat.reduceSub] at hH); subst hF; subst hH
    refine WE ?_
    refine aw_cond rfl (fun hb => ?_) (fun hb => ?_)
    · refine WA ?_
      exact aret_1 [] _ rfl rfl rfl (by decide) (ZNK rfl) (fun _ => .nil) ⟨by rw [pltF, if_neg h0, plnF, if_pos hb], rfl⟩
    · refine WA ?_
      exact aret_1 [] _ rfl rfl rfl (by decide) (ZNK rfl) (fun _ => .nil) ⟨by rw [pltF, if_neg h0, plnF, if_neg (by rw [hb]; simp)], rfl⟩
/-- The program's order of sides. -/
theorem cmpS_v (a b : Sid2) : ACalls Tryz.prog 60 [.a (a.row.map .c), .a (b.row.map .c)] [] fun u H => u = .c (I (sidC a b)) ∧ H = [] := by
  obtain ⟨af, at_⟩ := a
  obtain ⟨bf, bt⟩ := b
  refine acalls_of (N := 17) Tryz.func60 rfl rfl (by simp) fun E hE => ?_
  refine WA ?_
  refine ZZ ?_
  refine aw_regionT [(0, none), (1, none), (2, none), (3, none), (5, none), (6, none), (7, none), (8, none), (4, some [5, 6, 7, 8]), (9, some []), (10, some []), (11, some []), (12, none)] hMixed (by kernel_rfl) ?_
  refine WP ?_
  refine at_ef rfl rfl (ef_call0 false (fun _ => cmpI_v _ _) rfl .fn rfl (by decide) (by kernel_rfl) rfl (fun _g => .cons (.c rfl) (.cons (.c rfl) .nil)) (by simp)) ?_
  rintro _ _ ⟨_, _, _, ⟨rfl, rfl⟩, hF, hH⟩
  (try simp only [nsl, Nat.reduceAdd, Nat.reduceLT, Nat.reduceSub] at hF); (try simp only [nsl, Nat.reduceAdd, Nat.reduceLT, Nat.reduceSub] at hH); subst hF; subst hH
  refine ⟨ag_cons (by first | exact ag_rd rfl rfl rfl (ZX (KF (t := 54) (f := 1) rfl rfl)) rfl) (ag_cons (by first | exact ag_rd rfl rfl rfl (ZL (KK (t := 3) rfl)) rfl) (ag_cons (by first | exact ag_rd rfl rfl rfl (ZX (KF (t := 54) (f := 1) rfl rfl)) rfl) (ag_cons (by first | exact ag_rd rfl rfl rfl (ZL (KK (t := 3) rfl)) rfl) (ag_none)))), ?_⟩
  refine at_ef rfl rfl (ef_call0 false (fun _ => cmpI_v _ _) rfl .fn rfl (by decide) (by kernel_rfl) rfl (fun _g => .cons (.c rfl) (.cons (.c rfl) .nil)) (by simp)) ?_
  rintro _ _ ⟨_, _, _, ⟨rfl, rfl⟩, hF, hH⟩
  (try simp only [nsl, Nat.reduceAdd, Nat.reduceLT, Nat.reduceSub] at hF); (try simp only [nsl, Nat.reduceAdd, Nat.reduceLT, Nat.reduceSub] at hH); subst hF; subst hH
  refine ⟨ag_none, ?_⟩
  refine WP ?_
  refine at_ef rfl rfl (ef_call0 true (fun g => orI_v [cmpI af bf, cmpI at_ bt] (g (.o 2 0 2 2)) (by simp)) rfl .fn rfl (by decide) (by kernel_rfl) rfl (fun _ => .cons (.frz rfl rfl rfl rfl rfl) .nil) (fun _ _ _ _ ⟨hu, hH⟩ => by rw [hu, hH]; exact ⟨.c (.inl trivial), by simp⟩)) ?_
  rintro _ _ ⟨_, _, _, ⟨rfl, rfl⟩, hF, hH⟩
  (try simp only [nsl, Nat.reduceAdd, Nat.reduceLT, Nat.reduceSub] at hF); (try simp only [nsl, Nat.reduceAdd, Nat.reduceLT, Nat.reduceSub] at hH); subst hF; subst hH
  refine ⟨ag_none, ?_⟩
  refine WQ ?_
  all_goals exact aret_1 [] _ rfl rfl rfl (by decide) (ZNK rfl) (fun _ => .nil) ⟨rfl, rfl⟩
end Go.Proofs.YthanangkmjjbaaaGreatDoor

/- slices.Compact of sides, by value. -/
-- NEWM
namespace Go.Proofs.YthanangkmjjbaaaGreatDoor
open Go Go.RowKit
set_option maxRecDepth 100000
end Go.Proofs.YthanangkmjjbaaaGreatDoor

/- Cuts: the program's and the reference's, by value; planes of the stream. -/
-- NEWM
namespace Go.Proofs.YthanangkmjjbaaaGreatDoor
open Go Go.RowKit
set_option maxRecDepth 100000
/-- slices.SortFunc of sides, by a function that orders them. -/
theorem sortY_v (g : FuncId) (hg : okFn Tryz.prog g = true) (hc : ∀ a b : Sid2, ACalls Tryz.prog g [.a (a.row.map .c), .a (b.row.map .c)] [] fun u H => u = .c (I (sidC a b)) ∧ H = []) (l : List Sid2) (c : Nat) (hl : l.length ≤ 1000000) :
    ACallsX true Tryz.prog 59 [.o 0 0 l.length c, .f (.func g) []] [.arr 54 2 c (sR l)] fun u H => u = .t [] ∧ H = [.arr 54 2 c (sR (srtS l))] := by
  have h := acalls_sort sortSideL (k := 2) (fun w => Tryz.isAgg54 w) (fun w => Tryz.sizeOf54 w) (fun x => ∃ s : Sid2, x = s.row) (fun x y => sidC (sidOf x) (sidOf y)) (g := g) hg
    (by rintro _ ⟨s, rfl⟩; rw [sidC_lt]; omega)
    (by rintro _ _ _ ⟨a, rfl⟩ ⟨b, rfl⟩ ⟨c, rfl⟩; simp only [sidC_lt, sidOf_row]; omega)
    (by rintro _ _ _ ⟨a, rfl⟩ ⟨b, rfl⟩ ⟨c, rfl⟩; simp only [sidC_lt, sidOf_row]; omega)
    (by rintro _ _ ⟨a, rfl⟩ ⟨b, rfl⟩; exact hc a b)
    (sR l) (by intro r hr; obtain ⟨s, _, rfl⟩ := List.mem_map.1 hr; exact ⟨s, rfl⟩) (by simp; omega) (e := 54) (cap := c) (n := l.length) (c := c) (pn := true) (by simp)
  refine ACallsX.mono h fun u H => ?_
  rintro ⟨rows', rfl, rfl, hp, hs⟩
  have h2 := hp.map sidOf
  rw [sR, List.map_map, show (sidOf ∘ Sid2.row) = id from funext fun s => rfl, List.map_id] at h2
  have h3 : (rows'.map sidOf).Pairwise leS := by
    rw [List.pairwise_map]
    refine hs.imp fun {x y} h => ?_
    rw [sidC_lt] at h
    unfold leS
    omega
  have h4 := srtS_is h2 h3
  refine ⟨rfl, ?_⟩
  congr 2
  rw [← h4, sR, List.map_map]
  refine (List.map_id _).symm.trans (List.map_congr_left fun r hr => ?_)
  obtain ⟨s, _, rfl⟩ := List.mem_map.1 (hp.subset hr)
  rfl
theorem srtS_len (l : List Sid2) : (srtS l).length = l.length := (srtS_perm l).length_eq
theorem pltF_ok {V : List Vec3} {Fs : List Fac3} {z : Int} (h : pltF V Fs [z] = 0) : MOk V Fs ∧ (-100000 ≤ z ∧ z ≤ 100000) := by
  unfold pltF at h
  split at h
  · contradiction
  · rename_i h1
    refine ⟨mok_of (by omega), ?_⟩
    unfold plnF at h
    split at h
    · cases h
    · rename_i h2
      simp [farI] at h2
      omega
end Go.Proofs.YthanangkmjjbaaaGreatDoor

/- The library's contract of sorting lies at this program for segments and contours. -/
namespace Go.Proofs.YthanangkmjjbaaaGreatDoor
open Go Go.Shelf
set_option maxRecDepth 100000
def sortConL_ren : Go.Shelf.Ren := ⟨fun | 6 => 118 | 15 => 116 | 14 => 168 | 28 => 165 | 29 => 166 | 20 => 214 | 21 => 215 | 22 => 216 | 23 => 217 | 24 => 218 | 25 => 219 | 26 => 220 | 27 => 221 | 46 => 252 | 47 => 210 | 48 => 211 | 49 => 253 | 50 => 254 | 57 => 275 | n => n, fun | 22 => 132 | 24 => 135 | 25 => 210 | 3 => 3 | 39 => 204 | 0 => 0 | 53 => 265 | 55 => 267 | 4 => 4 | 46 => 258 | 45 => 257 | 50 => 262 | 5 => 5 | 9 => 9 | 66 => 307 | 70 => 311 | 76 => 342 | 77 => 343 | n => n, fun | n => n⟩
theorem sortConL : Go.Proofs.SlLaysF0.n6 Tryz.prog sortConL_ren := {
  mixed := by kernel_rfl
  f6 := ⟨Tryz.f118.name, by decide, Tryz.func118.trans (congrArg some (by kernel_rfl))⟩
  f14 := ⟨Tryz.f168.name, by decide, Tryz.func168.trans (congrArg some (by kernel_rfl))⟩
  f15 := Tryz.func116.trans (congrArg some (by kernel_rfl))
  f20 := ⟨Tryz.f214.name, by decide, Tryz.func214.trans (congrArg some (by kernel_rfl))⟩
  f21 := ⟨Tryz.f215.name, by decide, Tryz.func215.trans (congrArg some (by kernel_rfl))⟩
  f22 := ⟨Tryz.f216.name, by decide, Tryz.func216.trans (congrArg some (by kernel_rfl))⟩
  f23 := ⟨Tryz.f217.name, by decide, Tryz.func217.trans (congrArg some (by kernel_rfl))⟩
  f24 := ⟨Tryz.f218.name, by decide, Tryz.func218.trans (congrArg some (by kernel_rfl))⟩
  f25 := ⟨Tryz.f219.name, by decide, Tryz.func219.trans (congrArg some (by kernel_rfl))⟩
  f26 := ⟨Tryz.f220.name, by decide, Tryz.func220.trans (congrArg some (by kernel_rfl))⟩
  f27 := ⟨Tryz.f221.name, by decide, Tryz.func221.trans (congrArg some (by kernel_rfl))⟩
  f28 := Tryz.func165.trans (congrArg some (by kernel_rfl))
  f29 := Tryz.func166.trans (congrArg some (by kernel_rfl))
  f46 := ⟨Tryz.f252.name, by decide, Tryz.func252.trans (congrArg some (by kernel_rfl))⟩
  f47 := Tryz.func210.trans (congrArg some (by kernel_rfl))
  f48 := Tryz.func211.trans (congrArg some (by kernel_rfl))
  f49 := ⟨Tryz.f253.name, by decide, Tryz.func253.trans (congrArg some (by kernel_rfl))⟩
  f50 := ⟨Tryz.f254.name, by decide, Tryz.func254.trans (congrArg some (by kernel_rfl))⟩
  f57 := ⟨Tryz.f275.name, by decide, Tryz.func275.trans (congrArg some (by kernel_rfl))⟩
  t0 := Tryz.underlying0
  a0 := Tryz.isAgg0
  z0 := Tryz.sizeOf0
  v0 := Tryz.zeroValue0
  t3 := Tryz.underlying3
  a3 := Tryz.isAgg3
  z3 := Tryz.sizeOf3
  v3 := Tryz.zeroValue3
  t4 := Tryz.underlying4
  a4 := Tryz.isAgg4
  z4 := Tryz.sizeOf4
  v4 := Tryz.zeroValue4
  t5 := Tryz.underlying5
  a5 := Tryz.isAgg5
  z5 := Tryz.sizeOf5
  v5 := Tryz.zeroValue5
  t9 := Tryz.underlying9
  a9 := Tryz.isAgg9
  z9 := Tryz.sizeOf9
  v9 := Tryz.zeroValue9
  t22 := Tryz.underlying132
  a22 := Tryz.isAgg132
  z22 := Tryz.sizeOf132
  v22 := Tryz.zeroValue132
  t25 := Tryz.underlying210
  a25 := Tryz.isAgg210
  z25 := Tryz.sizeOf210
  v25 := Tryz.zeroValue210
  t39 := Tryz.underlying204
  a39 := Tryz.isAgg204
  z39 := Tryz.sizeOf204
  v39 := Tryz.zeroValue204
  t45 := Tryz.underlying257
  a45 := Tryz.isAgg257
  z45 := Tryz.sizeOf257
  v45 := Tryz.zeroValue257
  t46 := Tryz.underlying258
  a46 := Tryz.isAgg258
  z46 := Tryz.sizeOf258
  v46 := Tryz.zeroValue258
  t50 := Tryz.underlying262
  a50 := Tryz.isAgg262
  z50 := Tryz.sizeOf262
  v50 := Tryz.zeroValue262
  t53 := Tryz.underlying265
  a53 := Tryz.isAgg265
  z53 := Tryz.sizeOf265
  v53 := Tryz.zeroValue265
  t55 := Tryz.underlying267
  a55 := Tryz.isAgg267
  z55 := Tryz.sizeOf267
  v55 := Tryz.zeroValue267
  t66 := Tryz.underlying307
  a66 := Tryz.isAgg307
  z66 := Tryz.sizeOf307
  v66 := Tryz.zeroValue307
  t70 := Tryz.underlying311
  a70 := Tryz.isAgg311
  z70 := Tryz.sizeOf311
  v70 := Tryz.zeroValue311
  t76 := Tryz.underlying342
  a76 := Tryz.isAgg342
  z76 := Tryz.sizeOf342
  v76 := Tryz.zeroValue342
  t77 := Tryz.underlying343
  a77 := Tryz.isAgg343
  z77 := Tryz.sizeOf343
  v77 := Tryz.zeroValue343 }
end Go.Proofs.YthanangkmjjbaaaGreatDoor

/- Contours of the program, by value. -/
-- NEWM
namespace Go.Proofs.YthanangkmjjbaaaGreatDoor
open Go Go.RowKit
set_option maxRecDepth 100000
abbrev Con := List Sid2 × Bool
abbrev conRow (p : Value × Con) : List CV := [.r p.1 (sR p.2.1), B p.2.2]
abbrev cR (l : List (Value × Con)) : List (List CV) := l.map conRow
def conOf : List CV → Value × Con
  | [.r v rows, .s (.bool b)] => (v, (rows.map sidOf, b))
  | _ => (.pointer none, ([], false))
theorem sR_back (l : List Sid2) : (sR l).map sidOf = l := by
  rw [sR, List.map_map, show (sidOf ∘ Sid2.row) = id from funext fun s => rfl, List.map_id]
theorem conOf_row (p : Value × Con) : conOf (conRow p) = p := by
  obtain ⟨v, l, b⟩ := p
  simp only [conRow, conOf]
  rw [sR_back]
/-- The order of contours: by their first sides. -/
theorem conC_v (p q : Value × Con) (hp : p.2.1 ≠ []) (hq : q.2.1 ≠ []) : ACalls Tryz.prog 119 [.a ((conRow p).map .c), .a ((conRow q).map .c)] [] fun u H => u = .c (I (sidC (hdS p.2) (hdS q.2))) ∧ H = [] := by
  obtain ⟨v, l, b⟩ := p
  obtain ⟨v', l', b'⟩ := q
  cases l with
  | nil => exact absurd rfl hp
  | cons s l =>
    cases l' with
    | nil => exact absurd rfl hq
    | cons s' l' =>
      obtain ⟨sf, st⟩ := s
      obtain ⟨sf', st'⟩ := s'
      have hr1 : (sR ((⟨sf, st⟩ : Sid2) :: l))[0]? = some [I sf, I st] := rfl
      have hr2 : (sR ((⟨sf', st'⟩ : Sid2) :: l'))[0]? = some [I sf', I st'] := rfl
      refine acalls_of (N := 14) Tryz.func119 rfl rfl (by simp) fun E hE => ?_
      refine WA ?_
      refine ZZ ?_
      refine aw_regionT [(0, none), (1, none), (2, none), (3, none), (4, none), (5, none), (6, none), (7, none), (8, some []), (9, none)] hMixed (by kernel_rfl) ?_
      refine WP ?_
      refine at_ef rfl rfl (ef_call0 false (fun _ => cmpS_v ⟨sf, st⟩ ⟨sf', st'⟩) rfl .fn rfl (by decide) (by kernel_rfl) rfl (fun _ => C0 rfl) (by simp)) ?_
      rintro _ _ ⟨_, _, _, ⟨rfl, rfl⟩, hF, hH⟩
      (try simp only [nsl, Nat.reduceAdd, Nat.reduceLT, Nat.reduceSub] at hF); (try simp only [nsl, Nat.reduceAdd, Nat.reduceLT, Nat.reduceSub] at hH); subst hF; subst hH
      refine ⟨ag_none, ?_⟩
      refine WQ ?_
      all_goals exact aret_1 [] _ rfl rfl rfl (by decide) (ZNK rfl) (fun _ => .nil) ⟨rfl, rfl⟩
/-- slices.SortFunc of contours. -/
theorem sortCon_v (l : List (Value × Con)) (hne : ∀ p ∈ l, p.2.1 ≠ []) (c : Nat) (hl : l.length ≤ 1000000) :
    ACallsX true Tryz.prog 118 [.o 0 0 l.length c, .f (.func 119) []] [.arr 135 2 c (cR l)] fun u H => ∃ l' : List (Value × Con), u = .t [] ∧ H = [.arr 135 2 c (cR l')] ∧ l'.Perm l ∧ (l'.map Prod.snd).Pairwise leC := by
  have h := acalls_sort sortConL (k := 2) (fun w => Tryz.isAgg135 w) (fun w => Tryz.sizeOf135 w) (fun x => ∃ p : Value × Con, p.2.1 ≠ [] ∧ x = conRow p) (fun x y => sidC (hdS (conOf x).2) (hdS (conOf y).2)) (g := 119) (by kernel_rfl)
    (by rintro _ ⟨s, _, rfl⟩; rw [sidC_lt]; omega)
    (by rintro _ _ _ ⟨a, _, rfl⟩ ⟨b, _, rfl⟩ ⟨c, _, rfl⟩; simp only [sidC_lt]; omega)
    (by rintro _ _ _ ⟨a, _, rfl⟩ ⟨b, _, rfl⟩ ⟨c, _, rfl⟩; simp only [sidC_lt]; omega)
    (by rintro _ _ ⟨a, ha, rfl⟩ ⟨b, hb, rfl⟩; rw [conOf_row, conOf_row]; exact conC_v a b ha hb)
    (cR l) (by intro r hr; obtain ⟨p, hp, rfl⟩ := List.mem_map.1 hr; exact ⟨p, hne p hp, rfl⟩) (by simp; omega) (e := 135) (cap := c) (n := l.length) (c := c) (pn := true) (by simp)
  refine ACallsX.mono h fun u H => ?_
  rintro ⟨rows', rfl, rfl, hp, hs⟩
  have h2 := hp.map conOf
  rw [cR, List.map_map, show (conOf ∘ conRow) = id from funext conOf_row, List.map_id] at h2
  refine ⟨rows'.map conOf, rfl, ?_, h2, ?_⟩
  · congr 2
    rw [cR, List.map_map]
    refine (List.map_id _).symm.trans (List.map_congr_left fun r hr => ?_)
    obtain ⟨p, _, rfl⟩ := List.mem_map.1 (hp.subset hr)
    exact congrArg conRow (conOf_row p).symm
  · rw [List.map_map, List.pairwise_map]
    refine hs.imp fun {x y} h => leC_of ?_
    rw [sidC_lt] at h
    simp only [Function.comp]
    unfold leS
    omega
end Go.Proofs.YthanangkmjjbaaaGreatDoor
