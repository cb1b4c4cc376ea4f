/- Fractions in lowest terms, rounding, and how long a leg takes exactly, of the program and of its document, by value. -/
import Derived.Test.YtdmeohgojdfmoaaGreatQay
set_option linter.unusedSimpArgs false
set_option linter.unusedVariables false
/- Places of paths: searches, faults, distances, by value. -/
namespace Go.Proofs.YtdmeohgojdfmoaaGreat
open Go Go.RowKit
set_option maxRecDepth 100000
structure Pt where
  x : Int
  y : Int
deriving DecidableEq
abbrev Pt.row (p : Pt) : List CV := [I p.x, I p.y]
abbrev pts_r (v : Value) (l : List Pt) : CV := .r v (l.map Pt.row)
/-- A path, as a value. -/
abbrev pth (v : Value) (l : List Pt) (b : Bool) : AV := .a [.c (pts_r v l), .c (B b)]
def Pt.far (p : Pt) : Bool := !(decide (-100000 ≤ p.x) && decide (p.x ≤ 100000)) || !(decide (-100000 ≤ p.y) && decide (p.y ≤ 100000))
theorem Pt.far_f {p : Pt} (h : -100000 ≤ p.x ∧ p.x ≤ 100000 ∧ -100000 ≤ p.y ∧ p.y ≤ 100000) : p.far = false := by
  unfold Pt.far; simp; omega
theorem Pt.far_t {p : Pt} (h : ¬ (-100000 ≤ p.x ∧ p.x ≤ 100000 ∧ -100000 ≤ p.y ∧ p.y ≤ 100000)) : p.far = true := by
  unfold Pt.far; simp; omega
theorem Pt.near {p : Pt} (h : p.far = false) : -100000 ≤ p.x ∧ p.x ≤ 100000 ∧ -100000 ≤ p.y ∧ p.y ≤ 100000 := by
  unfold Pt.far at h; simp at h; omega
def ptsF (l : List Pt) (b : Bool) : Int := if l.length = 0 then 8 else if 500 < l.length then 2 else if b = true ∧ l.length < 3 then 3 else if l.any Pt.far = true then 1 else 0
def pathF (l : List Pt) (b : Bool) (n : Int) : Int := if ptsF l b ≠ 0 then ptsF l b else spanF n 1 100000
theorem isfar_a (p : Pt) : ACalls Tryz.prog 46 [.a (p.row.map .c)] [] fun u H => u = .c (B p.far) ∧ H = [] := by
  refine acalls_of (N := 11) Tryz.func46 rfl rfl (by simp) fun E hE => ?_
  repeat' (first
    | (with_reducible refine aw_seq ?_) | (with_reducible refine aseq_n ?_) | (with_reducible refine aseq_r ?_) | (with_reducible refine ablk_n ?_) | (with_reducible refine ablk_r ?_) | (with_reducible refine ablk_e ?_) | (with_reducible refine ablk_o rfl ?_) | (with_reducible refine aseq_e ?_) | (with_reducible refine aw_skip ?_) | (with_reducible refine aw_block ?_) | (with_reducible refine aw_ret ?_) | (with_reducible refine aw_exit ?_)
    | refine aw_cond_t rfl ?_ | refine aw_cond_f rfl ?_ | refine aw_if_t rfl (by assumption) ?_ | refine aw_if_f rfl (by assumption) ?_ | refine aw_if rfl (fun _ => ?_) (fun _ => ?_) | refine aw_cond rfl (fun _ => ?_) (fun _ => ?_)
    | (refine aw_region (id := 1) ?_
       refine WO ?_
       refine al_ef rfl (ef_call0 false (fun _ => outs_a _ _ _) rfl .fn rfl (by decide) (by kernel_rfl) rfl (fun _ => C0 rfl) (by simp)) ?_
       rintro _ _ ⟨_, _, _, ⟨bb, rfl, rfl, ⟨rfl, hb⟩ | ⟨rfl, hb⟩⟩, hF, hH⟩
       all_goals ((try simp only [nsl, Nat.reduceAdd, Nat.reduceLT, Nat.reduceSub] at hF); (try simp only [nsl, Nat.reduceAdd, Nat.reduceLT, Nat.reduceSub] at hH); subst hF; subst hH)
       all_goals (refine WO ?_)
       all_goals (first | refine ZS ?_ | (refine G1 rfl ?_; refine al_ef rfl (ef_call0 false (fun _ => outs_a _ _ _) rfl .fn rfl (by decide) (by kernel_rfl) rfl (fun _ => C0 rfl) (by simp)) ?_; rintro _ _ ⟨_, _, _, ⟨bb, rfl, rfl, ⟨rfl, hb⟩ | ⟨rfl, hb⟩⟩, hF, hH⟩; all_goals ((try simp only [nsl, Nat.reduceAdd, Nat.reduceLT, Nat.reduceSub] at hF); (try simp only [nsl, Nat.reduceAdd, Nat.reduceLT, Nat.reduceSub] at hH); subst hF; subst hH)) | skip)
       all_goals (refine WE ?_))
    | (refine aw_region ?_; refine WE ?_))
  all_goals (refine aret_1 [] _ rfl rfl rfl (by decide) (ZNK rfl) (fun _ => .nil) ⟨congrArg (fun z => AV.c (B z)) ?_, rfl⟩)
  all_goals first | (rw [Pt.far_t (by omega)]) | (rw [Pt.far_f (by omega)])
theorem indexP_a (fn : FuncId) (p : Pt → Bool) (hfn : okFn Tryz.prog fn = true) (hp : ∀ z : Pt, ACalls Tryz.prog fn [.a (z.row.map .c)] [] fun u H => u = .c (B (p z)) ∧ H = []) (l : List Pt) (v : Value) (hl : l.length ≤ 1000000000) :
    ACalls Tryz.prog 63 [.c (pts_r v l), .f (.func fn) []] [] fun u H => ∃ r : Int, u = .c (I r) ∧ H = [] ∧ (0 ≤ r ↔ l.any p = true) := by
  have e1 : (l.map Pt.row).length = l.length := by simp
  refine acalls_of (N := 19) Tryz.func63 rfl rfl (by simp) fun E hE => ?_
  refine WA ?_
  refine WA ?_
  refine aw_loopw (fun m F H => ∃ (k : Nat), m + k = l.length ∧ (l.drop k).any p = l.any p ∧ F = [(0, .c (pts_r v l)), (1, .f (.func fn) []), (7, .c (I (l.map Pt.row).length)), (8, .c (I k))] ∧ H = []) ?_ ?_
  · refine wk_of [] (fun _ => [(0, .c (pts_r v l)), (1, .f (.func fn) []), (7, .c (I (l.map Pt.row).length)), (8, .c (I (0 : Nat)))]) (fun _ => _) (by decide) (ZNL hE) ZCF (fun _ => .nil) (fun _ => ?_)
    exact ⟨l.length, 0, by omega, rfl, rfl, rfl⟩
  rintro m F H ⟨k, hk, hf, rfl, rfl⟩
  refine WA ?_
  refine aw_if rfl (fun hlt => ?_) (fun hge => ?_)
  · obtain ⟨z, hz⟩ : ∃ e, l[k]? = some e := ⟨_, List.getElem?_eq_getElem (by omega)⟩
    have hrow : (l.map Pt.row)[k]? = some [I z.x, I z.y] := by rw [List.getElem?_map, hz]; rfl
    have hfd : (l.drop k).any p = (p z || (l.drop (k + 1)).any p) := by rw [drop_consk hz, List.any_cons]
    refine WA ?_
    refine WR ?_
    refine al_ef rfl (ef_call0 false (fun _ => hp z) rfl (.clo rfl) rfl (by decide) hfn rfl (fun _ => C0 rfl) (by simp)) ?_
    rintro _ _ ⟨_, _, _, ⟨rfl, rfl⟩, hF, hH⟩
    (try simp only [nsl, Nat.reduceAdd, Nat.reduceLT, Nat.reduceSub] at hF); (try simp only [nsl, Nat.reduceAdd, Nat.reduceLT, Nat.reduceSub] at hH); subst hF; subst hH
    refine WE ?_
    refine aw_cond rfl (fun hpz => ?_) (fun hpz => ?_)
    · refine WA ?_
      refine aret_1 [] _ rfl rfl rfl (by decide) (ZNK rfl) (fun _ => .nil) ⟨_, rfl, rfl, ?_⟩
      rw [← hf, hfd, hpz]; simp
    · refine ZZ ?_
      refine WA ?_
      refine wk_of [] (fun _ => [(0, .c (pts_r v l)), (1, .f (.func fn) []), (7, .c (I (l.map Pt.row).length)), (8, .c (I (k + 1 : Nat)))]) (fun _ => _) (by decide) (ZNL hE) ZCF (fun _ => .nil) (fun _ => ?_)
      exact ⟨m - 1, by omega, k + 1, by omega, by rw [← hf, hfd, hpz, Bool.false_or], rfl, rfl⟩
  refine WA ?_
  refine aret_1 [] _ rfl rfl rfl (by decide) (ZNK rfl) (fun _ => .nil) ⟨_, rfl, rfl, ?_⟩
  rw [← hf, List.drop_eq_nil_of_le (by omega)]; simp
theorem containsP_a (fn : FuncId) (p : Pt → Bool) (hfn : okFn Tryz.prog fn = true) (hp : ∀ z : Pt, ACalls Tryz.prog fn [.a (z.row.map .c)] [] fun u H => u = .c (B (p z)) ∧ H = []) (l : List Pt) (v : Value) (hl : l.length ≤ 1000000000) :
    ACalls Tryz.prog 45 [.c (pts_r v l), .f (.func fn) []] [] fun u H => u = .c (B (l.any p)) ∧ H = [] := by
  refine acalls_of (N := 9) Tryz.func45 rfl rfl (by simp) fun E hE => ?_
  refine WA ?_
  refine WR ?_
  refine al_ef rfl (ef_call0 false (fun _ => indexP_a fn p hfn hp l v hl) rfl .fn rfl (by decide) (by kernel_rfl) rfl (fun _ => C0 rfl) (by simp)) ?_
  rintro _ _ ⟨_, _, _, ⟨r, rfl, rfl, hr⟩, hF, hH⟩
  (try simp only [nsl, Nat.reduceAdd, Nat.reduceLT, Nat.reduceSub] at hF); (try simp only [nsl, Nat.reduceAdd, Nat.reduceLT, Nat.reduceSub] at hH); subst hF; subst hH
  refine WE ?_
  refine aret_1 [] _ rfl rfl rfl (by decide) (ZNK rfl) (fun _ => .nil) ⟨congrArg (fun z => AV.c (B z)) ?_, rfl⟩
  cases h : l.any p
  · rw [h] at hr; simp at hr ⊢; omega
  · rw [h] at hr; simp at hr ⊢; omega
theorem pathfault_a (l : List Pt) (v : Value) (b : Bool) : ACalls Tryz.prog 29 [pth v l b] [] fun u H => u = .c (I (ptsF l b)) ∧ H = [] := by
  have e1 : (l.map Pt.row).length = l.length := by simp
  refine acalls_of (N := 26) Tryz.func29 rfl rfl (by simp) fun E hE => ?_
  refine WA ?_
  refine WA ?_
  refine aw_if rfl (fun h0 => ?_) (fun h0 => ?_)
  · refine WA ?_
    exact aret_1 [] _ rfl rfl rfl (by decide) (ZNK rfl) (fun _ => .nil) ⟨by rw [ptsF, if_pos (by omega)], rfl⟩
  refine ZZ ?_
  refine WA ?_
  refine aw_if rfl (fun h1 => ?_) (fun h1 => ?_)
  · refine WA ?_
    exact aret_1 [] _ rfl rfl rfl (by decide) (ZNK rfl) (fun _ => .nil) ⟨by rw [ptsF, if_neg (by omega), if_pos (by omega)], rfl⟩
  refine ZZ ?_
  have hF : ptsF l b = if b = true ∧ l.length < 3 then 3 else if l.any Pt.far = true then 1 else 0 := by rw [ptsF, if_neg (by omega), if_neg (by omega)]
  by_cases hb : b = true ∧ l.length < 3
  · obtain ⟨rfl, h3⟩ := hb
    refine WA ?_
    refine aw_cond_t rfl ?_
    refine WA ?_
    exact aret_1 [] _ rfl rfl rfl (by decide) (ZNK rfl) (fun _ => .nil) ⟨by rw [hF, if_pos ⟨rfl, h3⟩], rfl⟩
  rw [if_neg hb] at hF
  have key : ∀ F : Fm, F.lookup 1 = some (.p 0 0 0) → True := fun _ _ => trivial
  cases b with
  | true =>
    have h3 : ¬ l.length < 3 := fun h => hb ⟨rfl, h⟩
    refine WA ?_
    refine aw_cond_f rfl ?_
    refine ZZ ?_
    refine WR ?_
    refine al_ef rfl (ef_call0 false (fun _ => containsP_a 46 Pt.far (by kernel_rfl) isfar_a l v (by omega)) rfl .fn rfl (by decide) (by kernel_rfl) rfl (fun _ => C0 rfl) (by simp)) ?_
    rintro _ _ ⟨_, _, _, ⟨rfl, rfl⟩, hF, hH⟩
    (try simp only [nsl, Nat.reduceAdd, Nat.reduceLT, Nat.reduceSub] at hF); (try simp only [nsl, Nat.reduceAdd, Nat.reduceLT, Nat.reduceSub] at hH); subst hF; subst hH
    refine WE ?_
    refine aw_cond rfl (fun hf => ?_) (fun hf => ?_)
    · refine WA ?_
      exact aret_1 [] _ rfl rfl rfl (by decide) (ZNK rfl) (fun _ => .nil) ⟨by rw [hF, if_pos hf], rfl⟩
    · refine ZZ ?_
      refine WA ?_
      exact aret_1 [] _ rfl rfl rfl (by decide) (ZNK rfl) (fun _ => .nil) ⟨by rw [hF, if_neg (by simp [hf])], rfl⟩
  | false =>
    refine WA ?_
    refine aw_cond_f rfl ?_
    refine ZZ ?_
    refine WR ?_
    refine al_ef rfl (ef_call0 false (fun _ => containsP_a 46 Pt.far (by kernel_rfl) isfar_a l v (by omega)) rfl .fn rfl (by decide) (by kernel_rfl) rfl (fun _ => C0 rfl) (by simp)) ?_
    rintro _ _ ⟨_, _, _, ⟨rfl, rfl⟩, hF, hH⟩
    (try simp only [nsl, Nat.reduceAdd, Nat.reduceLT, Nat.reduceSub] at hF); (try simp only [nsl, Nat.reduceAdd, Nat.reduceLT, Nat.reduceSub] at hH); subst hF; subst hH
    refine WE ?_
    refine aw_cond rfl (fun hf => ?_) (fun hf => ?_)
    · refine WA ?_
      exact aret_1 [] _ rfl rfl rfl (by decide) (ZNK rfl) (fun _ => .nil) ⟨by rw [hF, if_pos hf], rfl⟩
    · refine ZZ ?_
      refine WA ?_
      exact aret_1 [] _ rfl rfl rfl (by decide) (ZNK rfl) (fun _ => .nil) ⟨by rw [hF, if_neg (by simp [hf])], rfl⟩
theorem pabs_a (n : Int) (h : -9223372036854775807 ≤ n ∧ n ≤ 9223372036854775807) : ACalls Tryz.prog 32 [.c (I n)] [] fun u H => u = .c (I (max n (-n))) ∧ H = [] := by
  refine acalls_of (N := 7) Tryz.func32 rfl rfl (by simp) fun E hE => ?_
  refine WA ?_
  refine WA ?_
  exact aret_1 [] _ rfl rfl rfl (by decide) (ZNK rfl) (fun _ => .nil) ⟨rfl, rfl⟩
def distF (p q : Pt) : Int := max (max (p.x - q.x) (-(p.x - q.x))) (max (p.y - q.y) (-(p.y - q.y)))
theorem dist_a (p q : Pt) (h1 : -4000000000000000000 ≤ p.x ∧ p.x ≤ 4000000000000000000) (h2 : -4000000000000000000 ≤ p.y ∧ p.y ≤ 4000000000000000000) (h3 : -4000000000000000000 ≤ q.x ∧ q.x ≤ 4000000000000000000) (h4 : -4000000000000000000 ≤ q.y ∧ q.y ≤ 4000000000000000000) :
    ACalls Tryz.prog 16 [.a (p.row.map .c), .a (q.row.map .c)] [] fun u H => u = .c (I (distF p q)) ∧ H = [] := by
  refine acalls_of (N := 18) Tryz.func16 rfl rfl (by simp) fun E hE => ?_
  refine WA ?_
  refine ZZ ?_
  refine aw_regionT [(0, none), (1, none), (2, none), (3, none), (4, none), (6, none), (7, none), (8, none), (9, none), (10, none), (5, some [6, 7, 8, 9, 10]), (11, some []), (12, none), (13, none)] hMixed (by kernel_rfl) ?_
  refine WP ?_
  refine at_ef rfl rfl (ef_call0 false (fun _ => pabs_a (p.x - q.x) (by omega)) rfl .fn rfl (by decide) (by kernel_rfl) rfl (fun _ => C0 rfl) (by simp)) ?_
  rintro _ _ ⟨_, _, _, ⟨rfl, rfl⟩, hF, hH⟩
  (try simp only [nsl, Nat.reduceAdd, Nat.reduceLT, Nat.reduceSub] at hF); (try simp only [nsl, Nat.reduceAdd, Nat.reduceLT, Nat.reduceSub] at hH); subst hF; subst hH
  refine ⟨ag_cons (by first | exact ag_rd rfl rfl rfl (ZX (KF (t := 39) (f := 1) rfl rfl)) rfl) (ag_cons (by first | exact ag_rd rfl rfl rfl (ZL (KK (t := 3) rfl)) rfl) (ag_cons (by first | exact ag_rd rfl rfl rfl (ZX (KF (t := 39) (f := 1) rfl rfl)) rfl) (ag_cons (by first | exact ag_rd rfl rfl rfl (ZL (KK (t := 3) rfl)) rfl) (ag_cons (by first | exact ag_rd rfl rfl rfl (Zsub) rfl) (ag_none))))), ?_⟩
  refine at_ef rfl rfl (ef_call0 false (fun _ => pabs_a (p.y - q.y) (by omega)) rfl .fn rfl (by decide) (by kernel_rfl) rfl (fun _ => C0 rfl) (by simp)) ?_
  rintro _ _ ⟨_, _, _, ⟨rfl, rfl⟩, hF, hH⟩
  (try simp only [nsl, Nat.reduceAdd, Nat.reduceLT, Nat.reduceSub] at hF); (try simp only [nsl, Nat.reduceAdd, Nat.reduceLT, Nat.reduceSub] at hH); subst hF; subst hH
  refine ⟨ag_none, ?_⟩
  refine WQ ?_
  exact aret_1 [] _ rfl rfl rfl (by decide) (ZNK rfl) (fun _ => .nil) ⟨rfl, rfl⟩
theorem any_dropP {l : List Pt} {k : Nat} {x : Pt} (h : l[k]? = some x) : (l.drop k).any Pt.far = (x.far || (l.drop (k + 1)).any Pt.far) := by
  rw [drop_consk h, List.any_cons]
end Go.Proofs.YtdmeohgojdfmoaaGreat

/- Fractions in lowest terms, rounding, and how long a leg takes exactly, of the program and of its document, by value. -/
namespace Go.Proofs.YtdmeohgojdfmoaaGreat
open Go Go.RowKit
set_option maxRecDepth 100000
section
variable {P : Program} {N : Nat} {E : Env} {F : Fm} {H : List OB} {o : Oper} {t yt : TypeId} {x y : Operand} {m n z : Int}
theorem rd_quoz (ho : o.op = .binOp .quo t x y yt) (hx : ev F x = some (.c (.s (.int .i64 m)))) (hy : ev F y = some (.c (.s (.int .i64 n)))) (h0 : n ≠ 0) (hz : wrap64 (m.tdiv n) = z) : Rd P N E o F H (.c (.s (.int .i64 z))) := by
  subst hz; exact rd_quo ho hx hy h0
theorem rd_remz (ho : o.op = .binOp .rem t x y yt) (hx : ev F x = some (.c (.s (.int .i64 m)))) (hy : ev F y = some (.c (.s (.int .i64 n)))) (h0 : n ≠ 0) (hz : m.tmod n = z) : Rd P N E o F H (.c (.s (.int .i64 z))) := by
  subst hz; exact rd_rem ho hx hy h0
end
def gcdI (a b : Int) : Nat := Nat.gcd a.toNat b.toNat
abbrev lowR (a b : Int) : List CV := [I (a / gcdI a b), I (b / gcdI a b)]
theorem gcd_next (a b : Nat) : Nat.gcd b (a % b) = Nat.gcd a b := by
  rw [Nat.gcd_comm a b, Nat.gcd_rec b a, Nat.gcd_comm]
theorem low1_a (num den : Int) (h0 : 0 ≤ num) (h1 : num ≤ 9223372036854775807) (h2 : 1 ≤ den) (h3 : den ≤ 9223372036854775807) : ACalls Tryz.prog 135 [.c (I num), .c (I den)] [] fun u H => u = .a ((lowR num den).map .c) ∧ H = [] := by
  obtain ⟨p, rfl⟩ := Int.eq_ofNat_of_zero_le h0
  obtain ⟨q, rfl⟩ := Int.eq_ofNat_of_zero_le (Int.le_trans (by decide) h2)
  refine acalls_of (N := 22) Tryz.func135 rfl rfl (by simp) fun E hE => ?_
  refine WA ?_
  refine WA ?_
  refine aw_loopw (fun m F H => ∃ (a : Nat), a ≤ 9223372036854775807 ∧ m ≤ 9223372036854775807 ∧ Nat.gcd a m = Nat.gcd p q ∧ F = [(0, .c (I p)), (1, .c (I q)), (4, .p 0 0 0), (5, .c (I a)), (6, .c (I m))] ∧ H = [.box [.c (I 0), .c (I 0)]]) ?_ ?_
  · refine wk_of [some 0] (fun _ => [(0, .c (I p)), (1, .c (I q)), (4, .p 0 0 0), (5, .c (I p)), (6, .c (I q))]) (fun _ => _) (by decide) (ZNL hE) ZCF ZCH (fun _ => ?_)
    exact ⟨q, p, by omega, by omega, rfl, rfl, rfl⟩
  rintro m F H ⟨a, ha, hb, hg, rfl, rfl⟩
  refine WA ?_
  refine aw_if rfl (fun hne => ?_) (fun he => ?_)
  · have hlt := Nat.mod_lt a (show 0 < m by omega)
    refine ZZ ?_
    refine aw_regionT [(0, none), (1, none), (2, none), (3, none), (4, none), (5, none)] hMixed (by kernel_rfl) ?_
    refine WQ ?_
    refine wk_of [some 0] (fun _ => [(0, .c (I p)), (1, .c (I q)), (4, .p 0 0 0), (5, .c (I m)), (6, .c (I (a % m : Nat)))]) (fun _ => _) (by decide) (ZNL hE) ZCF ZCH (fun _ => ?_)
    exact ⟨a % m, hlt, m, by omega, by omega, by rw [gcd_next]; exact hg, rfl, rfl⟩
  obtain rfl : m = 0 := by omega
  rw [Nat.gcd_zero_right] at hg
  have hg1 : 0 < a := by rw [hg]; exact Nat.gcd_pos_of_pos_right _ (by omega)
  refine ZZ ?_
  refine aw_regionT [(0, none), (1, none), (2, none), (3, none), (4, none), (5, none), (6, none), (7, some [])] hMixed (by kernel_rfl) ?_
  refine WQ ?_
  refine aret_a [] [] rfl (KK (t := 153) rfl) rfl (Cells.box rfl) (by simp) (by (try simp only [nm, putL, Nat.reduceAdd, cellsOf, cvOf]) <;> rfl) (by decide) (ZNK rfl) (fun _ => C0 rfl) (fun _ => .nil) ⟨?_, rfl⟩
  rw [hg]; rfl
abbrev exactR (f t : Int) (x : Leg) (ch : Int) : List CV := lowR (numF f t x ch) (denF f t x ch)
theorem numF_b {f t : Int} {x : Leg} {ch : Int} (h0 : 0 ≤ f ∧ f ≤ 100000) (h1 : 0 ≤ t ∧ t ≤ 100000) (hx : x.good) (hc : 1 ≤ ch ∧ ch ≤ 10000000) : 0 ≤ numF f t x ch ∧ numF f t x ch ≤ 5000000000000000000 ∧ 1 ≤ denF f t x ch ∧ denF f t x ch ≤ 2000000000000 := by
  have hd := dis_b hc hx
  have hp := peakF_b (f := f) (t := t) hx hc
  obtain ⟨hx1, hx2, hx3, hx4⟩ := hx
  have hs := sq_b (a := peakF f t x ch - f) (by omega) (by omega)
  have ht := sq_b (a := peakF f t x ch - t) (by omega) (by omega)
  have hpb := prod_b (a := 2 * ch) (b := peakF f t x ch) (A := 20000000) (C := 100000) (by omega) (by omega) (by omega) (by omega)
  have h3 : 2 * ch * 1 ≤ 2 * ch * peakF f t x ch := Int.mul_le_mul_of_nonneg_left hp.1 (by omega)
  unfold numF denF
  omega
theorem num_eq (p f t d : Int) : 1000000 * (2 * p * (2 * p - f - t) + (d - (2 * p * p - f * f - t * t))) = 1000000 * ((p - f) * (p - f) + (p - t) * (p - t) + d) := by
  grind
theorem prod_abs {a b A C : Int} (h0 : 0 ≤ a) (h1 : a ≤ A) (h2 : -C ≤ b) (h3 : b ≤ C) : -(A * C) ≤ a * b ∧ a * b ≤ A * C := by
  by_cases h : 0 ≤ b
  · have := prod_b h0 h1 h h3
    have := Int.mul_nonneg (a := A) (b := C) (by omega) (by omega)
    omega
  · have := prod_b (b := -b) (C := C) h0 h1 (by omega) (by omega)
    rw [Int.mul_neg] at this
    omega
end Go.Proofs.YtdmeohgojdfmoaaGreat
