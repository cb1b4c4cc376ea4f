/- Small functions of the program and of its document, by value: within a span, first errors, searches and comparisons of lists. -/
import Derived.Test.YtlblimbelfenaaaGreatQas
import Derived.Test.YtlblimbelfenaaaGreatQap
set_option linter.unusedSimpArgs false
set_option linter.unusedVariables false
/- Small functions of the program and of its document, by value: within a span, first errors, searches and comparisons of lists. -/
namespace Go.Proofs.YtlblimbelfenaaaGreat
open Go Go.RowKit
set_option maxRecDepth 100000
abbrev ints_r (v : Value) (l : List Int) : CV := .r v (l.map fun z => [I z])
theorem outs_a (n lo hi : Int) : ACalls Tryz.prog 101 [.c (I n), .c (I lo), .c (I hi)] [] fun u H => ∃ b : Bool, u = .c (B b) ∧ H = [] ∧ ((b = false ∧ lo ≤ n ∧ n ≤ hi) ∨ (b = true ∧ (n < lo ∨ hi < n))) := by
  refine acalls_of (N := 15) Tryz.func101 rfl rfl (by simp) fun E hE => ?_
  by_cases h1 : n < lo
  · repeat' (first
      | (with_reducible refine aw_seq ?_) | (with_reducible refine aseq_n ?_) | (with_reducible refine aseq_r ?_) | (with_reducible refine ablk_n ?_) | (with_reducible refine ablk_r ?_) | (with_reducible refine ablk_e ?_) | (with_reducible refine ablk_o rfl ?_) | (with_reducible refine aseq_e ?_) | (with_reducible refine aw_skip ?_) | (with_reducible refine aw_block ?_) | (with_reducible refine aw_ret ?_) | (with_reducible refine aw_exit ?_)
      | refine aw_cond_t rfl ?_ | refine aw_cond_f rfl ?_ | refine aw_if_t rfl (by assumption) ?_ | refine aw_if_f rfl (by assumption) ?_ | refine aw_if rfl (fun _ => ?_) (fun _ => ?_) | refine aw_cond rfl (fun _ => ?_) (fun _ => ?_)
      | (refine aw_region ?_; refine WE ?_))
    refine aret_1 [] _ rfl rfl rfl (by decide) (ZNK rfl) (fun _ => .nil) ?_
    exact ⟨_, rfl, rfl, .inr ⟨rfl, .inl h1⟩⟩
  · by_cases h2 : hi < n
    · repeat' (first
        | (with_reducible refine aw_seq ?_) | (with_reducible refine aseq_n ?_) | (with_reducible refine aseq_r ?_) | (with_reducible refine ablk_n ?_) | (with_reducible refine ablk_r ?_) | (with_reducible refine ablk_e ?_) | (with_reducible refine ablk_o rfl ?_) | (with_reducible refine aseq_e ?_) | (with_reducible refine aw_skip ?_) | (with_reducible refine aw_block ?_) | (with_reducible refine aw_ret ?_) | (with_reducible refine aw_exit ?_)
        | refine aw_cond_t rfl ?_ | refine aw_cond_f rfl ?_ | refine aw_if_t rfl (by assumption) ?_ | refine aw_if_f rfl (by assumption) ?_ | refine aw_if rfl (fun _ => ?_) (fun _ => ?_) | refine aw_cond rfl (fun _ => ?_) (fun _ => ?_)
        | (refine aw_region ?_; refine WE ?_))
      refine aret_1 [] _ rfl rfl rfl (by decide) (ZNK rfl) (fun _ => .nil) ?_
      exact ⟨_, rfl, rfl, .inr ⟨rfl, .inr h2⟩⟩
    · repeat' (first
        | (with_reducible refine aw_seq ?_) | (with_reducible refine aseq_n ?_) | (with_reducible refine aseq_r ?_) | (with_reducible refine ablk_n ?_) | (with_reducible refine ablk_r ?_) | (with_reducible refine ablk_e ?_) | (with_reducible refine ablk_o rfl ?_) | (with_reducible refine aseq_e ?_) | (with_reducible refine aw_skip ?_) | (with_reducible refine aw_block ?_) | (with_reducible refine aw_ret ?_) | (with_reducible refine aw_exit ?_)
        | refine aw_cond_t rfl ?_ | refine aw_cond_f rfl ?_ | refine aw_if_t rfl (by assumption) ?_ | refine aw_if_f rfl (by assumption) ?_ | refine aw_if rfl (fun _ => ?_) (fun _ => ?_) | refine aw_cond rfl (fun _ => ?_) (fun _ => ?_)
        | (refine aw_region ?_; refine WE ?_))
      refine aret_1 [] _ rfl rfl rfl (by decide) (ZNK rfl) (fun _ => .nil) ?_
      exact ⟨_, rfl, rfl, .inl ⟨rfl, by omega, by omega⟩⟩
theorem in1_a (n lo hi : Int) : ACalls Tryz.prog 60 [.c (I n), .c (I lo), .c (I hi)] [] fun u H => ∃ b : Bool, u = .c (B b) ∧ H = [] ∧ ((b = true ∧ lo ≤ n ∧ n ≤ hi) ∨ (b = false ∧ (n < lo ∨ hi < n))) := by
  refine acalls_of (N := 15) Tryz.func60 rfl rfl (by simp) fun E hE => ?_
  by_cases h1 : n < lo
  · repeat' (first
      | (with_reducible refine aw_seq ?_) | (with_reducible refine aseq_n ?_) | (with_reducible refine aseq_r ?_) | (with_reducible refine ablk_n ?_) | (with_reducible refine ablk_r ?_) | (with_reducible refine ablk_e ?_) | (with_reducible refine ablk_o rfl ?_) | (with_reducible refine aseq_e ?_) | (with_reducible refine aw_skip ?_) | (with_reducible refine aw_block ?_) | (with_reducible refine aw_ret ?_) | (with_reducible refine aw_exit ?_)
      | refine aw_cond_t rfl ?_ | refine aw_cond_f rfl ?_ | refine aw_if_t rfl (by assumption) ?_ | refine aw_if_f rfl (by assumption) ?_ | refine aw_if rfl (fun _ => ?_) (fun _ => ?_) | refine aw_cond rfl (fun _ => ?_) (fun _ => ?_)
      | (refine aw_region ?_; refine WE ?_))
    refine aret_1 [] _ rfl rfl rfl (by decide) (ZNK rfl) (fun _ => .nil) ?_
    exact ⟨_, rfl, rfl, .inr ⟨rfl, .inl h1⟩⟩
  · by_cases h2 : hi < n
    · repeat' (first
        | (with_reducible refine aw_seq ?_) | (with_reducible refine aseq_n ?_) | (with_reducible refine aseq_r ?_) | (with_reducible refine ablk_n ?_) | (with_reducible refine ablk_r ?_) | (with_reducible refine ablk_e ?_) | (with_reducible refine ablk_o rfl ?_) | (with_reducible refine aseq_e ?_) | (with_reducible refine aw_skip ?_) | (with_reducible refine aw_block ?_) | (with_reducible refine aw_ret ?_) | (with_reducible refine aw_exit ?_)
        | refine aw_cond_t rfl ?_ | refine aw_cond_f rfl ?_ | refine aw_if_t rfl (by assumption) ?_ | refine aw_if_f rfl (by assumption) ?_ | refine aw_if rfl (fun _ => ?_) (fun _ => ?_) | refine aw_cond rfl (fun _ => ?_) (fun _ => ?_)
        | (refine aw_region ?_; refine WE ?_))
      refine aret_1 [] _ rfl rfl rfl (by decide) (ZNK rfl) (fun _ => .nil) ?_
      exact ⟨_, rfl, rfl, .inr ⟨rfl, .inr h2⟩⟩
    · repeat' (first
        | (with_reducible refine aw_seq ?_) | (with_reducible refine aseq_n ?_) | (with_reducible refine aseq_r ?_) | (with_reducible refine ablk_n ?_) | (with_reducible refine ablk_r ?_) | (with_reducible refine ablk_e ?_) | (with_reducible refine ablk_o rfl ?_) | (with_reducible refine aseq_e ?_) | (with_reducible refine aw_skip ?_) | (with_reducible refine aw_block ?_) | (with_reducible refine aw_ret ?_) | (with_reducible refine aw_exit ?_)
        | refine aw_cond_t rfl ?_ | refine aw_cond_f rfl ?_ | refine aw_if_t rfl (by assumption) ?_ | refine aw_if_f rfl (by assumption) ?_ | refine aw_if rfl (fun _ => ?_) (fun _ => ?_) | refine aw_cond rfl (fun _ => ?_) (fun _ => ?_)
        | (refine aw_region ?_; refine WE ?_))
      refine aret_1 [] _ rfl rfl rfl (by decide) (ZNK rfl) (fun _ => .nil) ?_
      exact ⟨_, rfl, rfl, .inl ⟨rfl, by omega, by omega⟩⟩
def spanF (n lo hi : Int) : Int := if lo ≤ n ∧ n ≤ hi then 0 else 1
theorem span_a (n lo hi : Int) : ACalls Tryz.prog 64 [.c (I n), .c (I lo), .c (I hi)] [] fun u H => u = .c (I (spanF n lo hi)) ∧ H = [] := by
  refine acalls_of (N := 12) Tryz.func64 rfl rfl (by simp) fun E hE => ?_
  repeat' (first
    | (with_reducible refine aw_seq ?_) | (with_reducible refine aseq_n ?_) | (with_reducible refine aseq_r ?_) | (with_reducible refine ablk_n ?_) | (with_reducible refine ablk_r ?_) | (with_reducible refine ablk_e ?_) | (with_reducible refine ablk_o rfl ?_) | (with_reducible refine aseq_e ?_) | (with_reducible refine aw_skip ?_) | (with_reducible refine aw_block ?_) | (with_reducible refine aw_ret ?_) | (with_reducible refine aw_exit ?_)
    | refine aw_cond_t rfl ?_ | refine aw_cond_f rfl ?_ | refine aw_if_t rfl (by assumption) ?_ | refine aw_if_f rfl (by assumption) ?_ | refine aw_if rfl (fun _ => ?_) (fun _ => ?_) | refine aw_cond rfl (fun _ => ?_) (fun _ => ?_)
    | (refine aw_region (id := 1) ?_
       refine WO ?_
       refine al_ef rfl (ef_call0 false (fun _ => in1_a _ _ _) rfl .fn rfl (by decide) (by kernel_rfl) rfl (fun _ => C0 rfl) (by simp)) ?_
       rintro _ _ ⟨_, _, _, ⟨bb, rfl, rfl, ⟨rfl, hb⟩ | ⟨rfl, hb⟩⟩, hF, hH⟩
       all_goals ((try simp only [nsl, Nat.reduceAdd, Nat.reduceLT, Nat.reduceSub] at hF); (try simp only [nsl, Nat.reduceAdd, Nat.reduceLT, Nat.reduceSub] at hH); subst hF; subst hH)
       all_goals (refine WE ?_))
    | (refine aw_region ?_; refine WE ?_))
  all_goals (refine aret_1 [] _ rfl rfl rfl (by decide) (ZNK rfl) (fun _ => .nil) ⟨congrArg (fun z => AV.c (I z)) ?_, rfl⟩)
  all_goals (unfold spanF; first | rw [if_pos (by omega)] | rw [if_neg (by omega)])
def firstK : List Int → Int
  | [] => 0
  | e :: l => if e ≠ 0 then e else firstK l
theorem drop_consk {α : Type} {l : List α} {k : Nat} {s : α} (h : l[k]? = some s) : l.drop k = s :: l.drop (k + 1) := by
  obtain ⟨hk, rfl⟩ := List.getElem?_eq_some_iff.1 h
  exact List.drop_eq_getElem_cons hk
theorem firstK_drop {l : List Int} {k : Nat} {e : Int} (h : l[k]? = some e) : firstK (l.drop k) = if e ≠ 0 then e else firstK (l.drop (k + 1)) := by
  rw [drop_consk h]; rfl
theorem errsk_a (l : List Int) (v : Value) (hl : l.length ≤ 1000000) : ACalls Tryz.prog 12 [.c (ints_r v l)] [] fun u H => u = .c (I (firstK l)) ∧ H = [] := by
  have e1 : (l.map fun e => [I e]).length = l.length := by simp
  refine acalls_of (N := 15) Tryz.func12 rfl rfl (by simp) fun E hE => ?_
  refine WA ?_
  refine WA ?_
  refine aw_loopw (fun m F H => ∃ (k : Nat), m + k = l.length ∧ firstK (l.drop k) = firstK l ∧ F = [(5, .c (ints_r v l)), (6, .c (I (l.map fun e => [I e]).length)), (7, .c (I k))] ∧ H = []) ?_ ?_
  · refine wk_of [] (fun _ => [(5, .c (ints_r v l)), (6, .c (I (l.map fun e => [I e]).length)), (7, .c (I (0 : Nat)))]) (fun _ => _) (by decide) (ZNL hE) ZCF (fun _ => .nil) (fun _ => ?_)
    exact ⟨l.length, 0, by omega, rfl, rfl, rfl⟩
  rintro m F H ⟨k, hk, hf, rfl, rfl⟩
  refine WA ?_
  refine aw_if rfl (fun hlt => ?_) (fun hge => ?_)
  · obtain ⟨e, he⟩ : ∃ e, l[k]? = some e := ⟨_, List.getElem?_eq_getElem (by omega)⟩
    have hrow : (l.map fun e => [I e])[k]? = some [I e] := by rw [List.getElem?_map, he]; rfl
    have hfd := firstK_drop he
    refine WA ?_
    refine WA ?_
    refine aw_if rfl (fun hne => ?_) (fun heq => ?_)
    · refine WA ?_
      exact aret_1 [] _ rfl rfl rfl (by decide) (ZNK rfl) (fun _ => .nil) ⟨by rw [← hf, hfd, if_pos hne], rfl⟩
    · refine ZZ ?_
      refine WA ?_
      refine wk_of [] (fun _ => [(5, .c (ints_r v l)), (6, .c (I (l.map fun e => [I e]).length)), (7, .c (I (k + 1 : Nat)))]) (fun _ => _) (by decide) (ZNL hE) ZCF (fun _ => .nil) (fun _ => ?_)
      exact ⟨m - 1, by omega, k + 1, by omega, by rw [← hf, hfd, if_neg heq], rfl, rfl⟩
  refine WA ?_
  refine aret_1 [] _ rfl rfl rfl (by decide) (ZNK rfl) (fun _ => .nil) ⟨?_, rfl⟩
  rw [← hf, List.drop_eq_nil_of_le (by omega)]; rfl
theorem firstk_a (l : List Int) (v : Value) (hl : l.length ≤ 1000000) : ACalls Tryz.prog 104 [.c (ints_r v l)] [] fun u H => u = .c (I (firstK l)) ∧ H = [] := by
  have e1 : (l.map fun e => [I e]).length = l.length := by simp
  refine acalls_of (N := 15) Tryz.func104 rfl rfl (by simp) fun E hE => ?_
  refine WA ?_
  refine WA ?_
  refine aw_loopw (fun m F H => ∃ (k : Nat), m + k = l.length ∧ firstK (l.drop k) = firstK l ∧ F = [(5, .c (ints_r v l)), (6, .c (I (l.map fun e => [I e]).length)), (7, .c (I k))] ∧ H = []) ?_ ?_
  · refine wk_of [] (fun _ => [(5, .c (ints_r v l)), (6, .c (I (l.map fun e => [I e]).length)), (7, .c (I (0 : Nat)))]) (fun _ => _) (by decide) (ZNL hE) ZCF (fun _ => .nil) (fun _ => ?_)
    exact ⟨l.length, 0, by omega, rfl, rfl, rfl⟩
  rintro m F H ⟨k, hk, hf, rfl, rfl⟩
  refine WA ?_
  refine aw_if rfl (fun hlt => ?_) (fun hge => ?_)
  · obtain ⟨e, he⟩ : ∃ e, l[k]? = some e := ⟨_, List.getElem?_eq_getElem (by omega)⟩
    have hrow : (l.map fun e => [I e])[k]? = some [I e] := by rw [List.getElem?_map, he]; rfl
    have hfd := firstK_drop he
    refine WA ?_
    refine WA ?_
    refine aw_if rfl (fun hne => ?_) (fun heq => ?_)
    · refine WA ?_
      exact aret_1 [] _ rfl rfl rfl (by decide) (ZNK rfl) (fun _ => .nil) ⟨by rw [← hf, hfd, if_pos hne], rfl⟩
    · refine ZZ ?_
      refine WA ?_
      refine wk_of [] (fun _ => [(5, .c (ints_r v l)), (6, .c (I (l.map fun e => [I e]).length)), (7, .c (I (k + 1 : Nat)))]) (fun _ => _) (by decide) (ZNL hE) ZCF (fun _ => .nil) (fun _ => ?_)
      exact ⟨m - 1, by omega, k + 1, by omega, by rw [← hf, hfd, if_neg heq], rfl, rfl⟩
  refine WA ?_
  refine aret_1 [] _ rfl rfl rfl (by decide) (ZNK rfl) (fun _ => .nil) ⟨?_, rfl⟩
  rw [← hf, List.drop_eq_nil_of_le (by omega)]; rfl
theorem take_nextk {α : Type} {l : List α} {k : Nat} {s : α} (h : l[k]? = some s) : l.take (k + 1) = l.take k ++ [s] := by
  rw [List.take_add_one, h]; rfl
/-- The first place at which something holds of numbers, or -1. -/
theorem index_a (fn : FuncId) (p : Int → Bool) (hfn : okFn Tryz.prog fn = true) (hp : ∀ z, ACalls Tryz.prog fn [.c (I z)] [] fun u H => u = .c (B (p z)) ∧ H = []) (l : List Int) (v : Value) (hl : l.length ≤ 1000000000) :
    ACalls Tryz.prog 151 [.c (ints_r v l), .f (.func fn) []] [] fun u H => ∃ r : Int, u = .c (I r) ∧ H = [] ∧ (0 ≤ r ↔ l.any p = true) := by
  have e1 : (l.map fun z => [I z]).length = l.length := by simp
  refine acalls_of (N := 19) Tryz.func151 rfl rfl (by simp) fun E hE => ?_
  refine WA ?_
  refine WA ?_
  refine aw_loopw (fun m F H => ∃ (k : Nat), m + k = l.length ∧ (l.drop k).any p = l.any p ∧ F = [(0, .c (ints_r v l)), (1, .f (.func fn) []), (7, .c (I (l.map fun z => [I z]).length)), (8, .c (I k))] ∧ H = []) ?_ ?_
  · refine wk_of [] (fun _ => [(0, .c (ints_r v l)), (1, .f (.func fn) []), (7, .c (I (l.map fun z => [I z]).length)), (8, .c (I (0 : Nat)))]) (fun _ => _) (by decide) (ZNL hE) ZCF (fun _ => .nil) (fun _ => ?_)
    exact ⟨l.length, 0, by omega, rfl, rfl, rfl⟩
  rintro m F H ⟨k, hk, hf, rfl, rfl⟩
  refine WA ?_
  refine aw_if rfl (fun hlt => ?_) (fun hge => ?_)
  · obtain ⟨z, hz⟩ : ∃ e, l[k]? = some e := ⟨_, List.getElem?_eq_getElem (by omega)⟩
    have hrow : (l.map fun z => [I z])[k]? = some [I z] := by rw [List.getElem?_map, hz]; rfl
    have hfd : (l.drop k).any p = (p z || (l.drop (k + 1)).any p) := by rw [drop_consk hz, List.any_cons]
    refine WA ?_
    refine WR ?_
    refine al_ef rfl (ef_call0 false (fun _ => hp _) rfl (.clo rfl) rfl (by decide) hfn rfl (fun _ => C0 rfl) (by simp)) ?_
    rintro _ _ ⟨_, _, _, ⟨rfl, rfl⟩, hF, hH⟩
    (try simp only [nsl, Nat.reduceAdd, Nat.reduceLT, Nat.reduceSub] at hF); (try simp only [nsl, Nat.reduceAdd, Nat.reduceLT, Nat.reduceSub] at hH); subst hF; subst hH
    refine WE ?_
    refine aw_cond rfl (fun hpz => ?_) (fun hpz => ?_)
    · refine WA ?_
      refine aret_1 [] _ rfl rfl rfl (by decide) (ZNK rfl) (fun _ => .nil) ⟨_, rfl, rfl, ?_⟩
      rw [← hf, hfd, hpz]; simp
    · refine ZZ ?_
      refine WA ?_
      refine wk_of [] (fun _ => [(0, .c (ints_r v l)), (1, .f (.func fn) []), (7, .c (I (l.map fun z => [I z]).length)), (8, .c (I (k + 1 : Nat)))]) (fun _ => _) (by decide) (ZNL hE) ZCF (fun _ => .nil) (fun _ => ?_)
      exact ⟨m - 1, by omega, k + 1, by omega, by rw [← hf, hfd, hpz, Bool.false_or], rfl, rfl⟩
  refine WA ?_
  refine aret_1 [] _ rfl rfl rfl (by decide) (ZNK rfl) (fun _ => .nil) ⟨_, rfl, rfl, ?_⟩
  rw [← hf, List.drop_eq_nil_of_le (by omega)]; simp
theorem contains_a (fn : FuncId) (p : Int → Bool) (hfn : okFn Tryz.prog fn = true) (hp : ∀ z, ACalls Tryz.prog fn [.c (I z)] [] fun u H => u = .c (B (p z)) ∧ H = []) (l : List Int) (v : Value) (hl : l.length ≤ 1000000000) :
    ACalls Tryz.prog 111 [.c (ints_r v l), .f (.func fn) []] [] fun u H => u = .c (B (l.any p)) ∧ H = [] := by
  refine acalls_of (N := 9) Tryz.func111 rfl rfl (by simp) fun E hE => ?_
  refine WA ?_
  refine WR ?_
  refine al_ef rfl (ef_call0 false (fun _ => index_a fn p hfn hp l v hl) rfl .fn rfl (by decide) (by kernel_rfl) rfl (fun _ => C0 rfl) (by simp)) ?_
  rintro _ _ ⟨_, _, _, ⟨r, rfl, rfl, hr⟩, hF, hH⟩
  (try simp only [nsl, Nat.reduceAdd, Nat.reduceLT, Nat.reduceSub] at hF); (try simp only [nsl, Nat.reduceAdd, Nat.reduceLT, Nat.reduceSub] at hH); subst hF; subst hH
  refine WE ?_
  refine aret_1 [] _ rfl rfl rfl (by decide) (ZNK rfl) (fun _ => .nil) ⟨congrArg (fun z => AV.c (B z)) ?_, rfl⟩
  cases h : l.any p
  · rw [h] at hr; simp at hr ⊢; omega
  · rw [h] at hr; simp at hr ⊢; omega
theorem one_eqk {a b : Int} : a = b ↔ a = b := Iff.rfl
theorem eqI_a (l l' : List Int) (v v' : Value) (hl : l.length ≤ 1000000000) (hl' : l'.length ≤ 1000000000) : ACalls Tryz.prog 44 [.c (.r v (l.map (fun z => [I z]))), .c (.r v' (l'.map (fun z => [I z])))] [] fun u H => ∃ b : Bool, u = .c (B b) ∧ H = [] ∧ (b = true ↔ l = l') := by
  have e1 : (l.map (fun z => [I z])).length = l.length := by simp
  have e2 : (l'.map (fun z => [I z])).length = l'.length := by simp
  refine acalls_of (N := 26) Tryz.func44 rfl rfl (by simp) fun E hE => ?_
  refine WA ?_
  refine WA ?_
  refine aw_if rfl (fun hne => ?_) (fun heq => ?_)
  · refine WA ?_
    exact aret_1 [] _ rfl rfl rfl (by decide) (ZNK rfl) (fun _ => .nil) ⟨_, rfl, rfl, by simp; intro e; rw [e] at hne; omega⟩
  refine ZZ ?_
  refine WA ?_
  refine aw_loopw (fun n F H => ∃ k : Nat, n + k = l.length ∧ l.take k = l'.take k ∧ F = [(0, .c (.r v (l.map (fun z => [I z])))), (1, .c (.r v' (l'.map (fun z => [I z])))), (12, .c (I (l.map (fun z => [I z])).length)), (13, .c (I k))] ∧ H = []) ?_ ?_
  · refine wk_of [] (fun _ => [(0, .c (.r v (l.map (fun z => [I z])))), (1, .c (.r v' (l'.map (fun z => [I z])))), (12, .c (I (l.map (fun z => [I z])).length)), (13, .c (I (0 : Nat)))]) (fun _ => _) (by decide) (ZNL hE) ZCF (fun _ => .nil) (fun _ => ?_)
    exact ⟨l.length, 0, by omega, rfl, rfl, rfl⟩
  rintro n F H ⟨k, hk, ht, rfl, rfl⟩
  refine WA ?_
  refine aw_if rfl (fun hlt => ?_) (fun hge => ?_)
  · obtain ⟨s, hs⟩ : ∃ s, l[k]? = some s := ⟨_, List.getElem?_eq_getElem (by omega)⟩
    obtain ⟨s', hs'⟩ : ∃ s', l'[k]? = some s' := ⟨_, List.getElem?_eq_getElem (by omega)⟩
    have hrow : (l.map (fun z => [I z]))[k]? = some ((fun z => [I z]) s) := by rw [List.getElem?_map, hs]; rfl
    have hrow' : (l'.map (fun z => [I z]))[k]? = some ((fun z => [I z]) s') := by rw [List.getElem?_map, hs']; rfl
    refine WA ?_
    refine ZZ ?_
    refine aw_regionT [(0, none), (1, none), (2, none), (3, none), (4, none), (5, none), (6, none), (7, none), (8, none)] hMixed (by kernel_rfl) ?_
    refine WQ ?_
    refine aw_if rfl (fun hn => ?_) (fun he => ?_)
    · refine WA ?_
      refine aret_1 [] _ rfl rfl rfl (by decide) (ZNK rfl) (fun _ => .nil) ⟨_, rfl, rfl, ?_⟩
      simp only [Bool.false_eq_true, false_iff]
      intro e
      subst e
      rw [hs] at hs'
      exact hn (one_eqk.2 (Option.some.inj hs'))
    · refine ZZ ?_
      refine WA ?_
      refine wk_of [] (fun _ => [(0, .c (.r v (l.map (fun z => [I z])))), (1, .c (.r v' (l'.map (fun z => [I z])))), (12, .c (I (l.map (fun z => [I z])).length)), (13, .c (I (k + 1 : Nat)))]) (fun _ => _) (by decide) (ZNL hE) ZCF (fun _ => .nil) (fun _ => ?_)
      exact ⟨n - 1, by omega, k + 1, by omega, by rw [take_nextk hs, take_nextk hs', ht, one_eqk.1 (Decidable.not_not.1 he)], rfl, rfl⟩
  refine WA ?_
  refine aret_1 [] _ rfl rfl rfl (by decide) (ZNK rfl) (fun _ => .nil) ⟨_, rfl, rfl, ?_⟩
  rw [List.take_of_length_le (by omega), List.take_of_length_le (by omega)] at ht
  simp [ht]
end Go.Proofs.YtlblimbelfenaaaGreat
