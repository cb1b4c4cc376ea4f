/- Plain law: whole roots; the greatest speeds that keep the limits, made in two passes, and what makes them the only ones. -/
import Derived.Test.YtdmeohgojdfmoaaGreatQas
import Derived.Test.YtdmeohgojdfmoaaGreatQaw
import Derived.Test.YtdmeohgojdfmoaaGreatQap
import Derived.Tactics
set_option linter.unusedSimpArgs false
set_option linter.unusedVariables false
/- Texts for the functions of package slices, at any type of elements; what they do to rows. -/
namespace Go.Proofs.YtdmeohgojdfmoaaGreat
open Go Go.RowKit
/-- Rows of this size, of plain cells. -/
def OkR (sz : Nat) (R : List (List CV)) : Prop := ∀ row ∈ R, row.length = sz ∧ ∀ u ∈ row, u.one = true
section
variable {β : Type} {r : List β} {y z : β} {i : Nat}
theorem ins_1 (hi : i < r.length) : (r.take i ++ List.replicate (r.length + 1 - i) z).take (0 + i) ++ [y] ++ (r.take i ++ List.replicate (r.length + 1 - i) z).drop (0 + i + [y].length) = r.take i ++ y :: List.replicate (r.length - i) z := by
  have hl : (r.take i).length = i := by simp; omega
  rw [Nat.zero_add, List.take_append_of_le_length (by omega), List.take_of_length_le (by omega), List.drop_append, List.drop_eq_nil_of_le (by simp; omega), hl]
  simp only [List.drop_replicate, List.length_cons, List.length_nil, List.nil_append, List.append_assoc, List.cons_append]
  rw [show r.length + 1 - i - (i + (0 + 1) - i) = r.length - i from by omega]
theorem ins_2 (hi : i < r.length) : (r.take i ++ y :: List.replicate (r.length - i) z).take (0 + (i + 1)) ++ r.drop i ++ (r.take i ++ y :: List.replicate (r.length - i) z).drop (0 + (i + 1) + (r.drop i).length) = r.take i ++ y :: r.drop i := by
  have hl : (r.take i).length = i := by simp; omega
  have e : (r.take i ++ y :: List.replicate (r.length - i) z).drop (0 + (i + 1) + (r.drop i).length) = [] := List.drop_eq_nil_of_le (by simp; omega)
  rw [e, Nat.zero_add, List.append_nil, List.take_append, hl, List.take_of_length_le (by omega), show i + 1 - i = 1 from by omega]
  simp
theorem ins_3 (hi : i < r.length) : r.take (0 + (i + 1)) ++ r.drop i ++ r.drop (0 + (i + 1) + (r.drop i).length) = r.take (i + 1) ++ r.drop i := by
  have e : r.drop (0 + (i + 1) + (r.drop i).length) = [] := List.drop_eq_nil_of_le (by simp; omega)
  rw [e, Nat.zero_add, List.append_nil]
theorem ins_4 (hi : i < r.length) : (r.take (i + 1) ++ r.drop i).take (0 + i) ++ [y] ++ (r.take (i + 1) ++ r.drop i).drop (0 + i + [y].length) = r.take i ++ y :: r.drop i := by
  have hl : (r.take (i + 1)).length = i + 1 := by simp; omega
  rw [Nat.zero_add, List.take_append_of_le_length (by omega), List.take_take, Nat.min_eq_left (by omega), List.drop_append_of_le_length (by simp; omega)]
  simp
end
end Go.Proofs.YtdmeohgojdfmoaaGreat

/- Small functions of the program and of its document, by value: within a span, first errors, searches and comparisons of lists. -/
namespace Go.Proofs.YtdmeohgojdfmoaaGreat
open Go Go.RowKit
set_option maxRecDepth 100000
abbrev ints_r (v : Value) (l : List Int) : CV := .r v (l.map fun z => [I z])
theorem outs_a (n lo hi : Int) : ACalls Tryz.prog 30 [.c (I n), .c (I lo), .c (I hi)] [] fun u H => ∃ b : Bool, u = .c (B b) ∧ H = [] ∧ ((b = false ∧ lo ≤ n ∧ n ≤ hi) ∨ (b = true ∧ (n < lo ∨ hi < n))) := by
  refine acalls_of (N := 15) Tryz.func30 rfl rfl (by simp) fun E hE => ?_
  by_cases h1 : n < lo
  · repeat' (first
      | (with_reducible refine aw_seq ?_) | (with_reducible refine aseq_n ?_) | (with_reducible refine aseq_r ?_) | (with_reducible refine ablk_n ?_) | (with_reducible refine ablk_r ?_) | (with_reducible refine ablk_e ?_) | (with_reducible refine ablk_o rfl ?_) | (with_reducible refine aseq_e ?_) | (with_reducible refine aw_skip ?_) | (with_reducible refine aw_block ?_) | (with_reducible refine aw_ret ?_) | (with_reducible refine aw_exit ?_)
      | refine aw_cond_t rfl ?_ | refine aw_cond_f rfl ?_ | refine aw_if_t rfl (by assumption) ?_ | refine aw_if_f rfl (by assumption) ?_ | refine aw_if rfl (fun _ => ?_) (fun _ => ?_) | refine aw_cond rfl (fun _ => ?_) (fun _ => ?_)
      | (refine aw_region ?_; refine WE ?_))
    refine aret_1 [] _ rfl rfl rfl (by decide) (ZNK rfl) (fun _ => .nil) ?_
    exact ⟨_, rfl, rfl, .inr ⟨rfl, .inl h1⟩⟩
  · by_cases h2 : hi < n
    · repeat' (first
        | (with_reducible refine aw_seq ?_) | (with_reducible refine aseq_n ?_) | (with_reducible refine aseq_r ?_) | (with_reducible refine ablk_n ?_) | (with_reducible refine ablk_r ?_) | (with_reducible refine ablk_e ?_) | (with_reducible refine ablk_o rfl ?_) | (with_reducible refine aseq_e ?_) | (with_reducible refine aw_skip ?_) | (with_reducible refine aw_block ?_) | (with_reducible refine aw_ret ?_) | (with_reducible refine aw_exit ?_)
        | refine aw_cond_t rfl ?_ | refine aw_cond_f rfl ?_ | refine aw_if_t rfl (by assumption) ?_ | refine aw_if_f rfl (by assumption) ?_ | refine aw_if rfl (fun _ => ?_) (fun _ => ?_) | refine aw_cond rfl (fun _ => ?_) (fun _ => ?_)
        | (refine aw_region ?_; refine WE ?_))
      refine aret_1 [] _ rfl rfl rfl (by decide) (ZNK rfl) (fun _ => .nil) ?_
      exact ⟨_, rfl, rfl, .inr ⟨rfl, .inr h2⟩⟩
    · repeat' (first
        | (with_reducible refine aw_seq ?_) | (with_reducible refine aseq_n ?_) | (with_reducible refine aseq_r ?_) | (with_reducible refine ablk_n ?_) | (with_reducible refine ablk_r ?_) | (with_reducible refine ablk_e ?_) | (with_reducible refine ablk_o rfl ?_) | (with_reducible refine aseq_e ?_) | (with_reducible refine aw_skip ?_) | (with_reducible refine aw_block ?_) | (with_reducible refine aw_ret ?_) | (with_reducible refine aw_exit ?_)
        | refine aw_cond_t rfl ?_ | refine aw_cond_f rfl ?_ | refine aw_if_t rfl (by assumption) ?_ | refine aw_if_f rfl (by assumption) ?_ | refine aw_if rfl (fun _ => ?_) (fun _ => ?_) | refine aw_cond rfl (fun _ => ?_) (fun _ => ?_)
        | (refine aw_region ?_; refine WE ?_))
      refine aret_1 [] _ rfl rfl rfl (by decide) (ZNK rfl) (fun _ => .nil) ?_
      exact ⟨_, rfl, rfl, .inl ⟨rfl, by omega, by omega⟩⟩
def spanF (n lo hi : Int) : Int := if lo ≤ n ∧ n ≤ hi then 0 else 1
def firstK : List Int → Int
  | [] => 0
  | e :: l => if e ≠ 0 then e else firstK l
theorem drop_consk {α : Type} {l : List α} {k : Nat} {s : α} (h : l[k]? = some s) : l.drop k = s :: l.drop (k + 1) := by
  obtain ⟨hk, rfl⟩ := List.getElem?_eq_some_iff.1 h
  exact List.drop_eq_getElem_cons hk
theorem firstK_drop {l : List Int} {k : Nat} {e : Int} (h : l[k]? = some e) : firstK (l.drop k) = if e ≠ 0 then e else firstK (l.drop (k + 1)) := by
  rw [drop_consk h]; rfl
theorem take_nextk {α : Type} {l : List α} {k : Nat} {s : α} (h : l[k]? = some s) : l.take (k + 1) = l.take k ++ [s] := by
  rw [List.take_add_one, h]; rfl
/-- The first place at which something holds of numbers, or -1. -/
theorem index_a (fn : FuncId) (p : Int → Bool) (hfn : okFn Tryz.prog fn = true) (hp : ∀ z, ACalls Tryz.prog fn [.c (I z)] [] fun u H => u = .c (B (p z)) ∧ H = []) (l : List Int) (v : Value) (hl : l.length ≤ 1000000000) :
    ACalls Tryz.prog 68 [.c (ints_r v l), .f (.func fn) []] [] fun u H => ∃ r : Int, u = .c (I r) ∧ H = [] ∧ (0 ≤ r ↔ l.any p = true) := by
  have e1 : (l.map fun z => [I z]).length = l.length := by simp
  refine acalls_of (N := 19) Tryz.func68 rfl rfl (by simp) fun E hE => ?_
  refine WA ?_
  refine WA ?_
  refine aw_loopw (fun m F H => ∃ (k : Nat), m + k = l.length ∧ (l.drop k).any p = l.any p ∧ F = [(0, .c (ints_r v l)), (1, .f (.func fn) []), (7, .c (I (l.map fun z => [I z]).length)), (8, .c (I k))] ∧ H = []) ?_ ?_
  · refine wk_of [] (fun _ => [(0, .c (ints_r v l)), (1, .f (.func fn) []), (7, .c (I (l.map fun z => [I z]).length)), (8, .c (I (0 : Nat)))]) (fun _ => _) (by decide) (ZNL hE) ZCF (fun _ => .nil) (fun _ => ?_)
    exact ⟨l.length, 0, by omega, rfl, rfl, rfl⟩
  rintro m F H ⟨k, hk, hf, rfl, rfl⟩
  refine WA ?_
  refine aw_if rfl (fun hlt => ?_) (fun hge => ?_)
  · obtain ⟨z, hz⟩ : ∃ e, l[k]? = some e := ⟨_, List.getElem?_eq_getElem (by omega)⟩
    have hrow : (l.map fun z => [I z])[k]? = some [I z] := by rw [List.getElem?_map, hz]; rfl
    have hfd : (l.drop k).any p = (p z || (l.drop (k + 1)).any p) := by rw [drop_consk hz, List.any_cons]
    refine WA ?_
    refine WR ?_
    refine al_ef rfl (ef_call0 false (fun _ => hp _) rfl (.clo rfl) rfl (by decide) hfn rfl (fun _ => C0 rfl) (by simp)) ?_
    rintro _ _ ⟨_, _, _, ⟨rfl, rfl⟩, hF, hH⟩
    (try simp only [nsl, Nat.reduceAdd, Nat.reduceLT, Nat.reduceSub] at hF); (try simp only [nsl, Nat.reduceAdd, Nat.reduceLT, Nat.reduceSub] at hH); subst hF; subst hH
    refine WE ?_
    refine aw_cond rfl (fun hpz => ?_) (fun hpz => ?_)
    · refine WA ?_
      refine aret_1 [] _ rfl rfl rfl (by decide) (ZNK rfl) (fun _ => .nil) ⟨_, rfl, rfl, ?_⟩
      rw [← hf, hfd, hpz]; simp
    · refine ZZ ?_
      refine WA ?_
      refine wk_of [] (fun _ => [(0, .c (ints_r v l)), (1, .f (.func fn) []), (7, .c (I (l.map fun z => [I z]).length)), (8, .c (I (k + 1 : Nat)))]) (fun _ => _) (by decide) (ZNL hE) ZCF (fun _ => .nil) (fun _ => ?_)
      exact ⟨m - 1, by omega, k + 1, by omega, by rw [← hf, hfd, hpz, Bool.false_or], rfl, rfl⟩
  refine WA ?_
  refine aret_1 [] _ rfl rfl rfl (by decide) (ZNK rfl) (fun _ => .nil) ⟨_, rfl, rfl, ?_⟩
  rw [← hf, List.drop_eq_nil_of_le (by omega)]; simp
theorem contains_a (fn : FuncId) (p : Int → Bool) (hfn : okFn Tryz.prog fn = true) (hp : ∀ z, ACalls Tryz.prog fn [.c (I z)] [] fun u H => u = .c (B (p z)) ∧ H = []) (l : List Int) (v : Value) (hl : l.length ≤ 1000000000) :
    ACalls Tryz.prog 49 [.c (ints_r v l), .f (.func fn) []] [] fun u H => u = .c (B (l.any p)) ∧ H = [] := by
  refine acalls_of (N := 9) Tryz.func49 rfl rfl (by simp) fun E hE => ?_
  refine WA ?_
  refine WR ?_
  refine al_ef rfl (ef_call0 false (fun _ => index_a fn p hfn hp l v hl) rfl .fn rfl (by decide) (by kernel_rfl) rfl (fun _ => C0 rfl) (by simp)) ?_
  rintro _ _ ⟨_, _, _, ⟨r, rfl, rfl, hr⟩, hF, hH⟩
  (try simp only [nsl, Nat.reduceAdd, Nat.reduceLT, Nat.reduceSub] at hF); (try simp only [nsl, Nat.reduceAdd, Nat.reduceLT, Nat.reduceSub] at hH); subst hF; subst hH
  refine WE ?_
  refine aret_1 [] _ rfl rfl rfl (by decide) (ZNK rfl) (fun _ => .nil) ⟨congrArg (fun z => AV.c (B z)) ?_, rfl⟩
  cases h : l.any p
  · rw [h] at hr; simp at hr ⊢; omega
  · rw [h] at hr; simp at hr ⊢; omega
theorem one_eqk {a b : Int} : a = b ↔ a = b := Iff.rfl
end Go.Proofs.YtdmeohgojdfmoaaGreat

/- Plain law: whole roots; the greatest speeds that keep the limits, made in two passes, and what makes them the only ones. -/
namespace Go.Proofs.YtdmeohgojdfmoaaGreat
structure Leg where
  long : Int
  limit : Int
/- ## Whole roots -/
def rootN : Nat → Nat
  | 0 => 0
  | n + 1 => if (rootN n + 1) * (rootN n + 1) ≤ n + 1 then rootN n + 1 else rootN n
theorem rootN_le : ∀ n, rootN n * rootN n ≤ n
  | 0 => Nat.le_refl _
  | n + 1 => by
    have := rootN_le n
    unfold rootN
    split
    · assumption
    · omega
theorem rootN_lt : ∀ n, n < (rootN n + 1) * (rootN n + 1)
  | 0 => by decide
  | n + 1 => by
    have h := rootN_lt n
    unfold rootN
    split
    · rename_i h1
      have : (rootN n + 1 + 1) * (rootN n + 1 + 1) = (rootN n + 1) * (rootN n + 1) + 2 * (rootN n + 1) + 1 := by
        simp only [Nat.add_mul, Nat.mul_add]; omega
      omega
    · omega
def rootI (n : Int) : Int := (rootN n.toNat : Nat)
theorem sq_lt {a b : Int} (h0 : 0 ≤ b) (h : a * a < b * b) : a < b := by
  by_cases hab : a < b
  · exact hab
  · have h1 : b * b ≤ a * b := Int.mul_le_mul_of_nonneg_right (by omega) h0
    have h2 : a * b ≤ a * a := Int.mul_le_mul_of_nonneg_left (by omega) (by omega)
    omega
theorem sq_le {a b : Int} (h0 : 0 ≤ a) (h : a ≤ b) : a * a ≤ b * b := by
  have h1 : a * a ≤ a * b := Int.mul_le_mul_of_nonneg_left h h0
  have h2 : a * b ≤ b * b := Int.mul_le_mul_of_nonneg_right h (by omega)
  omega
theorem rootI_nn (n : Int) : 0 ≤ rootI n := Int.natCast_nonneg _
theorem rootI_le {n : Int} (h : 0 ≤ n) : rootI n * rootI n ≤ n := by
  have := rootN_le n.toNat
  have h2 : ((rootN n.toNat * rootN n.toNat : Nat) : Int) ≤ (n.toNat : Int) := Int.ofNat_le.2 this
  unfold rootI
  rw [Int.natCast_mul] at h2
  omega
theorem rootI_lt {n : Int} (h : 0 ≤ n) : n < (rootI n + 1) * (rootI n + 1) := by
  have := rootN_lt n.toNat
  have h2 : (n.toNat : Int) < (((rootN n.toNat + 1) * (rootN n.toNat + 1) : Nat) : Int) := Int.ofNat_lt.2 this
  rw [Int.natCast_mul] at h2
  unfold rootI
  have e : ((rootN n.toNat + 1 : Nat) : Int) = (rootN n.toNat : Int) + 1 := by omega
  rw [e] at h2
  omega
theorem le_rootI {n r : Int} (h : 0 ≤ n) (hr : r * r ≤ n) : r ≤ rootI n := by
  have h1 := rootI_lt h
  have := sq_lt (a := r) (b := rootI n + 1) (by have := rootI_nn n; omega) (by omega)
  omega
theorem rootI_uniq {n r : Int} (h0 : 0 ≤ r) (h1 : r * r ≤ n) (h2 : n < (r + 1) * (r + 1)) : r = rootI n := by
  have hn : 0 ≤ n := Int.le_trans (Int.mul_nonneg h0 h0) h1
  have a := le_rootI hn h1
  have b := sq_lt (a := rootI n) (b := r + 1) (by omega) (by have := rootI_le hn; omega)
  omega
theorem rootI_mono {m n : Int} (h0 : 0 ≤ m) (h : m ≤ n) : rootI m ≤ rootI n := le_rootI (by omega) (by have := rootI_le h0; omega)
def rt (v d : Int) : Int := rootI (v * v + d)
theorem rt_nn (v d : Int) : 0 ≤ rt v d := rootI_nn _
theorem rt_mono {v w d : Int} (h0 : 0 ≤ v) (h : v ≤ w) (hd : 0 ≤ d) : rt v d ≤ rt w d := by
  have := sq_le h0 h
  have := Int.mul_nonneg h0 h0
  exact rootI_mono (by omega) (by omega)
theorem le_rt {v d : Int} (hd : 0 ≤ d) (h0 : 0 ≤ v) : v ≤ rt v d := le_rootI (by have := Int.mul_nonneg h0 h0; omega) (by omega)
/- ## The greatest speeds -/
def Keeps (n : Nat) (cap d v : Nat → Int) : Prop := (∀ i, i ≤ n → 0 ≤ v i ∧ v i ≤ cap i) ∧ ∀ i, i < n → v (i + 1) ≤ rt (v i) (d i) ∧ v i ≤ rt (v (i + 1)) (d i)
def Best (n : Nat) (cap d v : Nat → Int) : Prop := Keeps n cap d v ∧ ∀ w, Keeps n cap d w → ∀ i, i ≤ n → w i ≤ v i
theorem Best.uniq {n : Nat} {cap d v w : Nat → Int} (h : Best n cap d v) (h' : Best n cap d w) : ∀ i, i ≤ n → v i = w i := fun i hi => by
  have := h.2 w h'.1 i hi
  have := h'.2 v h.1 i hi
  omega
def fwd (cap d : Nat → Int) : Nat → Int
  | 0 => cap 0
  | i + 1 => min (cap (i + 1)) (rt (fwd cap d i) (d i))
/-- Counted from the end. -/
def bwd (n : Nat) (cap d : Nat → Int) : Nat → Int
  | 0 => fwd cap d n
  | j + 1 => min (fwd cap d (n - (j + 1))) (rt (bwd n cap d j) (d (n - (j + 1))))
def spd (n : Nat) (cap d : Nat → Int) (i : Nat) : Int := bwd n cap d (n - i)
theorem spd_last (n : Nat) (cap d : Nat → Int) : spd n cap d n = fwd cap d n := by unfold spd; rw [Nat.sub_self]; rfl
theorem spd_step {n i : Nat} {cap d : Nat → Int} (h : i < n) : spd n cap d i = min (fwd cap d i) (rt (spd n cap d (i + 1)) (d i)) := by
  unfold spd
  obtain ⟨j, hj⟩ : ∃ j, n - i = j + 1 := ⟨n - i - 1, by omega⟩
  rw [hj, bwd, show n - (j + 1) = i from by omega, show n - (i + 1) = j from by omega]
theorem fwd_nn {n : Nat} {cap d : Nat → Int} (hc : ∀ i, i ≤ n → 0 ≤ cap i) : ∀ i, i ≤ n → 0 ≤ fwd cap d i ∧ fwd cap d i ≤ cap i
  | 0, h => ⟨hc 0 h, Int.le_refl _⟩
  | i + 1, h => by
    have := rt_nn (fwd cap d i) (d i)
    have := hc (i + 1) h
    rw [fwd]; omega
theorem spd_le {n : Nat} {cap d : Nat → Int} (hc : ∀ i, i ≤ n → 0 ≤ cap i) (i : Nat) (h : i ≤ n) : 0 ≤ spd n cap d i ∧ spd n cap d i ≤ fwd cap d i := by
  by_cases hi : i = n
  · subst hi; rw [spd_last]; exact ⟨(fwd_nn hc i h).1, Int.le_refl _⟩
  · rw [spd_step (by omega)]
    have := rt_nn (spd n cap d (i + 1)) (d i)
    have := (fwd_nn (d := d) hc i h).1
    omega
theorem spd_best {n : Nat} {cap d : Nat → Int} (hc : ∀ i, i ≤ n → 0 ≤ cap i) (hd : ∀ i, 0 ≤ d i) : Best n cap d (spd n cap d) := by
  constructor
  · constructor
    · intro i hi
      have h1 := spd_le (d := d) hc i hi
      have h2 := fwd_nn (d := d) hc i hi
      omega
    · intro i hi
      have hs := spd_step (cap := cap) (d := d) hi
      have h1 := spd_le (d := d) hc (i + 1) hi
      have h2 := spd_le (d := d) hc i (by omega)
      refine ⟨?_, by omega⟩
      by_cases hle : fwd cap d i ≤ rt (spd n cap d (i + 1)) (d i)
      · have e : spd n cap d i = fwd cap d i := by omega
        have hf : fwd cap d (i + 1) = min (cap (i + 1)) (rt (fwd cap d i) (d i)) := rfl
        rw [e]; omega
      · have e : spd n cap d i = rt (spd n cap d (i + 1)) (d i) := by omega
        have h3 := le_rt (hd i) h1.1
        have h4 := le_rt (hd i) h2.1
        omega
  · intro w hw
    have hf : ∀ i, i ≤ n → w i ≤ fwd cap d i := by
      intro i
      induction i with
      | zero => intro hi; exact (hw.1 0 hi).2
      | succ i ih =>
        intro hi
        have h1 := ih (by omega)
        have h2 := (hw.2 i hi).1
        have h3 := rt_mono (hw.1 i (by omega)).1 h1 (hd i)
        have h4 := (hw.1 (i + 1) hi).2
        rw [fwd]; omega
    have hb : ∀ j i, n - i = j → i ≤ n → w i ≤ spd n cap d i := by
      intro j
      induction j with
      | zero => intro i hj hi; obtain rfl : i = n := by omega
                rw [spd_last]; exact hf i hi
      | succ j ih =>
        intro i hj hi
        have h1 := ih (i + 1) (by omega) (by omega)
        have h2 := (hw.2 i (by omega)).2
        have h3 := rt_mono (hw.1 (i + 1) (by omega)).1 h1 (hd i)
        have h4 := hf i hi
        rw [spd_step (by omega)]; omega
    exact fun i hi => hb _ i rfl hi
/- ## Legs and corners -/
def capL (l : List Leg) (cs : List Int) (j : Nat) : Int := if j = 0 ∨ l.length ≤ j then 0 else min (min (cs.getD (j - 1) 0) (l.getD (j - 1) ⟨0, 0⟩).limit) (l.getD j ⟨0, 0⟩).limit
def disL (l : List Leg) (ch : Int) (j : Nat) : Int := 2 * ch * (l.getD j ⟨0, 0⟩).long
def Leg.good (x : Leg) : Prop := 1 ≤ x.long ∧ x.long ≤ 200000 ∧ 1 ≤ x.limit ∧ x.limit ≤ 100000
def legBad (x : Leg) : Bool := !(decide (1 ≤ x.long) && decide (x.long ≤ 200000) && decide (1 ≤ x.limit) && decide (x.limit ≤ 100000))
theorem legBad_iff {x : Leg} : legBad x = false ↔ x.good := by unfold legBad Leg.good; simp; omega
def legsF (l : List Leg) : Int := if l.length = 0 then 8 else if 2000 < l.length then 2 else if l.any legBad then 1 else 0
def cornerBad (n : Int) : Bool := !(decide (0 ≤ n) && decide (n ≤ 100000))
def cornersF (l : List Leg) (cs : List Int) : Int := if legsF l ≠ 0 then legsF l else if (cs.length : Int) ≠ l.length - 1 then 3 else if cs.any cornerBad then 1 else 0
def changeF (ch : Int) : Int := if 1 ≤ ch ∧ ch ≤ 10000000 then 0 else 1
def faultL (l : List Leg) (cs : List Int) (ch : Int) : Int := if cornersF l cs ≠ 0 then cornersF l cs else changeF ch
structure Right (l : List Leg) (cs : List Int) : Prop where
  ne : 1 ≤ l.length
  le : l.length ≤ 2000
  legs : ∀ x ∈ l, x.good
  len : cs.length + 1 = l.length
  cor : ∀ z ∈ cs, 0 ≤ z ∧ z ≤ 100000
theorem legsF_ok {l : List Leg} (h : legsF l = 0) : 1 ≤ l.length ∧ l.length ≤ 2000 ∧ ∀ x ∈ l, x.good := by
  unfold legsF at h
  split at h
  · omega
  split at h
  · omega
  split at h
  · omega
  rename_i h1 h2 h3
  refine ⟨by omega, by omega, fun x hx => legBad_iff.1 ?_⟩
  simp only [List.any_eq_true, not_exists, not_and, Bool.not_eq_true] at h3
  exact h3 x hx
theorem cornersF_ok {l : List Leg} {cs : List Int} (h : cornersF l cs = 0) : Right l cs := by
  unfold cornersF at h
  split at h
  · omega
  rename_i h0
  obtain ⟨h1, h2, h3⟩ := legsF_ok (l := l) (by omega)
  split at h
  · omega
  split at h
  · omega
  rename_i h4 h5
  refine ⟨h1, h2, h3, by omega, fun z hz => ?_⟩
  simp only [List.any_eq_true, not_exists, not_and, Bool.not_eq_true] at h5
  have := h5 z hz
  unfold cornerBad at this
  simp at this; omega
theorem changeF_ok {ch : Int} (h : changeF ch = 0) : 1 ≤ ch ∧ ch ≤ 10000000 := by
  unfold changeF at h
  split at h
  · assumption
  · omega
theorem getD_mem {α : Type} {l : List α} {i : Nat} {z : α} (h : i < l.length) : l.getD i z ∈ l := by
  rw [List.getD_eq_getElem?_getD, List.getElem?_eq_getElem h]; exact List.getElem_mem h
theorem Right.leg {l : List Leg} {cs : List Int} (h : Right l cs) {i : Nat} (hi : i < l.length) : (l.getD i ⟨0, 0⟩).good := h.legs _ (getD_mem hi)
theorem Right.cap {l : List Leg} {cs : List Int} (h : Right l cs) (i : Nat) : 0 ≤ capL l cs i ∧ capL l cs i ≤ 100000 := by
  unfold capL
  split
  · omega
  · rename_i hi
    have h1 := h.leg (i := i - 1) (by omega)
    have h2 := h.leg (i := i) (by omega)
    have h3 := h.cor _ (getD_mem (l := cs) (i := i - 1) (z := 0) (by have := h.len; omega))
    unfold Leg.good at h1 h2
    omega
theorem disL_nn {l : List Leg} {cs : List Int} (h : Right l cs) {ch : Int} (hc : 1 ≤ ch) (i : Nat) : 0 ≤ disL l ch i := by
  unfold disL
  by_cases hi : i < l.length
  · have := (h.leg hi).1
    exact Int.mul_nonneg (by omega) (by omega)
  · rw [List.getD_eq_getElem?_getD, List.getElem?_eq_none (by omega)]; simp
/-- The speeds. -/
def speedsS (l : List Leg) (cs : List Int) (ch : Int) : List Int := (List.range (l.length + 1)).map (spd l.length (capL l cs) (disL l ch))
theorem speedsS_len (l : List Leg) (cs : List Int) (ch : Int) : (speedsS l cs ch).length = l.length + 1 := by simp [speedsS]
theorem speedsS_get {l : List Leg} {cs : List Int} {ch : Int} {i : Nat} (h : i ≤ l.length) : (speedsS l cs ch)[i]? = some (spd l.length (capL l cs) (disL l ch) i) := by
  unfold speedsS
  rw [List.getElem?_map, List.getElem?_range (by omega)]; rfl
theorem speedsS_best {l : List Leg} {cs : List Int} {ch : Int} (h : Right l cs) (hc : 1 ≤ ch) : Best l.length (capL l cs) (disL l ch) (spd l.length (capL l cs) (disL l ch)) :=
  spd_best (fun i _ => (h.cap i).1) (disL_nn h hc)
/-- A list of speeds that is the best one is that list. -/
theorem speedsS_uniq {l : List Leg} {cs v : List Int} {ch : Int} (h : Right l cs) (hc : 1 ≤ ch) (hl : v.length = l.length + 1) (hv : Best l.length (capL l cs) (disL l ch) (fun i => v.getD i 0)) : v = speedsS l cs ch := by
  refine List.ext_getElem? fun i => ?_
  by_cases hi : i ≤ l.length
  · have := hv.uniq (speedsS_best h hc) i hi
    rw [speedsS_get hi, ← this, List.getD_eq_getElem?_getD, List.getElem?_eq_getElem (by omega)]; rfl
  · rw [List.getElem?_eq_none (by omega), List.getElem?_eq_none (by rw [speedsS_len]; omega)]
theorem speedsS_nn {l : List Leg} {cs : List Int} {ch : Int} (h : Right l cs) (hc : 1 ≤ ch) {i : Nat} (hi : i ≤ l.length) : 0 ≤ spd l.length (capL l cs) (disL l ch) i ∧ spd l.length (capL l cs) (disL l ch) i ≤ capL l cs i := (speedsS_best h hc).1.1 i hi
theorem getD_of {α : Type} {l : List α} {i : Nat} {x z : α} (h : l[i]? = some x) : l.getD i z = x := by rw [List.getD_eq_getElem?_getD, h]; rfl
/- ## The two passes over lists -/
abbrev fwdL (l : List Leg) (cs : List Int) (ch : Int) : Nat → Int := fwd (capL l cs) (disL l ch)
abbrev spdL (l : List Leg) (cs : List Int) (ch : Int) : Nat → Int := spd l.length (capL l cs) (disL l ch)
theorem capL_zero (l : List Leg) (cs : List Int) : capL l cs 0 = 0 := by unfold capL; rw [if_pos (.inl rfl)]
theorem capL_last (l : List Leg) (cs : List Int) : capL l cs l.length = 0 := by unfold capL; rw [if_pos (.inr (Nat.le_refl _))]
theorem capL_mid {l : List Leg} {cs : List Int} {k : Nat} {x y : Leg} {c : Int} (hx : l[k]? = some x) (hy : l[k + 1]? = some y) (hc : cs[k]? = some c) : capL l cs (k + 1) = min (min c x.limit) y.limit := by
  have h1 : k + 1 < l.length := (List.getElem?_eq_some_iff.1 hy).1
  unfold capL
  rw [if_neg (by omega), Nat.add_sub_cancel, getD_of hx, getD_of hy, getD_of hc]
theorem disL_of {l : List Leg} {ch : Int} {k : Nat} {x : Leg} (hx : l[k]? = some x) : disL l ch k = 2 * ch * x.long := by unfold disL; rw [getD_of hx]
theorem fwdL_zero (l : List Leg) (cs : List Int) (ch : Int) : fwdL l cs ch 0 = 0 := capL_zero l cs
theorem fwdL_mid {l : List Leg} {cs : List Int} {ch : Int} {k : Nat} {x y : Leg} {c : Int} (hx : l[k]? = some x) (hy : l[k + 1]? = some y) (hc : cs[k]? = some c) : fwdL l cs ch (k + 1) = min (min (min c x.limit) y.limit) (rt (fwdL l cs ch k) (2 * ch * x.long)) := by
  show fwd _ _ (k + 1) = _
  rw [fwd, capL_mid hx hy hc, disL_of hx]
theorem fwdL_b {l : List Leg} {cs : List Int} (h : Right l cs) (ch : Int) (i : Nat) (hi : i ≤ l.length) : 0 ≤ fwdL l cs ch i ∧ fwdL l cs ch i ≤ 100000 := by
  have h1 := fwd_nn (n := l.length) (cap := capL l cs) (d := disL l ch) (fun i _ => (h.cap i).1) i hi
  have h2 := h.cap i
  exact ⟨h1.1, by have := h1.2; show fwd _ _ _ ≤ _; omega⟩
theorem fwdL_last {l : List Leg} {cs : List Int} (h : Right l cs) (ch : Int) : fwdL l cs ch l.length = 0 := by
  have h1 := fwd_nn (n := l.length) (cap := capL l cs) (d := disL l ch) (fun i _ => (h.cap i).1) l.length (Nat.le_refl _)
  have h2 := capL_last l cs
  show fwd _ _ _ = _
  omega
theorem spdL_b {l : List Leg} {cs : List Int} (h : Right l cs) (ch : Int) (i : Nat) (hi : i ≤ l.length) : 0 ≤ spdL l cs ch i ∧ spdL l cs ch i ≤ 100000 := by
  have h1 := spd_le (n := l.length) (cap := capL l cs) (d := disL l ch) (fun i _ => (h.cap i).1) i hi
  have h2 := fwdL_b h ch i hi
  exact ⟨h1.1, by have := h1.2; show spd _ _ _ _ ≤ _; have h3 : fwd (capL l cs) (disL l ch) i ≤ 100000 := h2.2; omega⟩
theorem spdL_last {l : List Leg} {cs : List Int} (h : Right l cs) (ch : Int) : spdL l cs ch l.length = 0 := by
  show spd _ _ _ _ = _
  rw [spd_last]; exact fwdL_last h ch
theorem spdL_mid {l : List Leg} (cs : List Int) {ch : Int} {k : Nat} {x : Leg} (hx : l[k]? = some x) : spdL l cs ch k = min (fwdL l cs ch k) (rt (spdL l cs ch (k + 1)) (2 * ch * x.long)) := by
  show spd _ _ _ _ = _
  rw [spd_step (List.getElem?_eq_some_iff.1 hx).1, disL_of hx]
theorem spdL_zero {l : List Leg} {cs : List Int} (h : Right l cs) (ch : Int) : spdL l cs ch 0 = 0 := by
  have h1 := spd_le (n := l.length) (cap := capL l cs) (d := disL l ch) (fun i _ => (h.cap i).1) 0 (Nat.zero_le _)
  have h2 : fwd (capL l cs) (disL l ch) 0 = 0 := fwdL_zero l cs ch
  show spd _ _ _ _ = _
  omega
/-- Lists of speeds while they are made. -/
def MidF (l : List Leg) (cs : List Int) (ch : Int) (k : Nat) (w : List Int) : Prop := w.length = l.length + 1 ∧ ∀ j, j ≤ l.length → w[j]? = some (if j ≤ k then fwdL l cs ch j else 0)
def MidB (l : List Leg) (cs : List Int) (ch : Int) (k : Nat) (w : List Int) : Prop := w.length = l.length + 1 ∧ ∀ j, j ≤ l.length → w[j]? = some (if k < j then spdL l cs ch j else fwdL l cs ch j)
theorem midF_zero (l : List Leg) (cs : List Int) (ch : Int) : MidF l cs ch 0 (List.replicate (l.length + 1) 0) := by
  refine ⟨by simp, fun j hj => ?_⟩
  rw [List.getElem?_replicate, if_pos (by omega)]
  split
  · obtain rfl : j = 0 := by omega
    rw [fwdL_zero]
  · rfl
theorem midF_next {l : List Leg} {cs w : List Int} {ch : Int} {k : Nat} (h : MidF l cs ch k w) (hk : k + 1 ≤ l.length) : MidF l cs ch (k + 1) (w.set (k + 1) (fwdL l cs ch (k + 1))) := by
  refine ⟨by rw [List.length_set]; exact h.1, fun j hj => ?_⟩
  rw [List.getElem?_set]
  split
  · rename_i e
    subst e
    rw [if_pos (by rw [h.1]; omega), if_pos (by omega)]
  · rename_i e
    rw [h.2 j hj]
    by_cases hjk : j ≤ k
    · rw [if_pos hjk, if_pos (by omega)]
    · rw [if_neg hjk, if_neg (by omega)]
theorem midB_start {l : List Leg} {cs w : List Int} {ch : Int} {k : Nat} (hr : Right l cs) (h : MidF l cs ch k w) (hk : k + 1 = l.length) : MidB l cs ch k w := by
  refine ⟨h.1, fun j hj => ?_⟩
  rw [h.2 j hj]
  by_cases hjk : j ≤ k
  · rw [if_pos hjk, if_neg (by omega)]
  · obtain rfl : j = l.length := by omega
    rw [if_neg hjk, if_pos (by omega), spdL_last hr]
theorem midB_next {l : List Leg} {cs w : List Int} {ch : Int} {k : Nat} (h : MidB l cs ch (k + 1) w) : MidB l cs ch k (w.set (k + 1) (spdL l cs ch (k + 1))) := by
  refine ⟨by rw [List.length_set]; exact h.1, fun j hj => ?_⟩
  rw [List.getElem?_set]
  split
  · rename_i e
    subst e
    rw [if_pos (by rw [h.1]; omega), if_pos (by omega)]
  · rename_i e
    rw [h.2 j hj]
    by_cases hjk : k + 1 < j
    · rw [if_pos hjk, if_pos (by omega)]
    · rw [if_neg hjk, if_neg (by omega)]
theorem midB_end {l : List Leg} {cs w : List Int} {ch : Int} (hr : Right l cs) (h : MidB l cs ch 0 w) : w = speedsS l cs ch := by
  refine List.ext_getElem? fun i => ?_
  by_cases hi : i ≤ l.length
  · rw [h.2 i hi, speedsS_get hi]
    by_cases h0 : 0 < i
    · rw [if_pos h0]
    · obtain rfl : i = 0 := by omega
      rw [if_neg h0, fwdL_zero]
      exact congrArg some (spdL_zero hr ch).symm
  · rw [List.getElem?_eq_none (by have := h.1; omega), List.getElem?_eq_none (by rw [speedsS_len]; omega)]
end Go.Proofs.YtdmeohgojdfmoaaGreat
