/- Plain law: the short form; what the program and its document leave out is the same. -/
import Derived.Test.YtpbedckdnoogpaaRe
set_option linter.unusedSimpArgs false
set_option linter.unusedVariables false
namespace Go.Proofs.Ytpbedckdnoogpaa
open Go Go.RowKit
def keepB (was is : Mach) (x : Step) : Bool := if x.k = 4 then !(decide (x.f = 0) && decide (is.eq was)) else if x.k = 7 then !decide (x.n = 0) else !decide (is.eq was)
def keepD (m : Mach) (s : Step) : Bool := !decide ((afterS m s).eq m) || (decide (s.k = 7) && decide (0 < s.n))
theorem wrap_in (n : Int) : in64 (wrap64 n) := by
  unfold in64 wrap64
  omega
theorem afterS_fl {m : Mach} {s : Step} (h : in64 m.fl) : in64 (afterS m s).fl := by
  unfold afterS
  repeat' split
  all_goals first | exact h | exact wrap_in _
theorem fault_fn {s : Step} (h : faultS s = 0) : 0 ≤ s.f ∧ s.f ≤ 100000000 ∧ (s.k = 7 → 0 ≤ s.n) := by
  unfold faultS at h
  split at h
  · omega
  split at h
  · omega
  split at h
  · omega
  rename_i h1 h2 h3
  omega
theorem keep_same {m : Mach} {s : Step} (hf : faultS s = 0) (hm : in64 m.fl) : keepB m (afterS m s) s = keepD m s := by
  obtain ⟨f0, f1, fn⟩ := fault_fn hf
  unfold keepB keepD
  by_cases h4 : s.k = 4
  · have h7 : ¬ s.k = 7 := by omega
    rw [if_pos h4, decide_eq_false h7]
    by_cases hz : s.f = 0
    · rw [decide_eq_true hz]; simp
    · have hne : ¬ (afterS m s).eq m := fun he => by
        have h8 : (afterS m s).fl = m.fl := he.2.2.2.2.2.2.1
        have h9 : (afterS m s).fl = wrap64 (m.fl + s.f) := by
          unfold afterS
          rw [if_neg (by omega), if_neg (by omega), if_pos (.inr h4)]
        rw [h9] at h8
        unfold in64 at hm
        unfold wrap64 at h8
        omega
      rw [decide_eq_false hz, decide_eq_false hne]; simp
  · rw [if_neg h4]
    by_cases h7 : s.k = 7
    · have he : (afterS m s).eq m := by
        have : afterS m s = m := by
          unfold afterS
          rw [if_neg (by omega), if_neg (by omega), if_neg (by omega), if_neg (by omega), if_neg (by omega), if_neg (by omega), if_neg (by omega)]
        rw [this]; exact ⟨rfl, rfl, rfl, rfl, rfl, rfl, rfl, rfl⟩
      rw [if_pos h7, decide_eq_true he, decide_eq_true h7]
      have := fn h7
      by_cases hn : s.n = 0
      · rw [decide_eq_true hn, decide_eq_false (by omega)]; rfl
      · rw [decide_eq_false hn, decide_eq_true (by omega)]; rfl
    · rw [if_neg h7, decide_eq_false h7]; simp
def keepE (was is : Mach) (x : Step) : List Step := if keepB was is x then [x] else []
def keepFrom : Mach → List Step → List Step
  | _, [] => []
  | m, s :: l => keepE m (afterS m s) s ++ keepFrom (afterS m s) l
theorem keepFrom_len : ∀ (l : List Step) (m : Mach), (keepFrom m l).length ≤ l.length
  | [], _ => Nat.le_refl _
  | s :: l, m => by
    have := keepFrom_len l (afterS m s)
    unfold keepFrom keepE
    split <;> simp <;> omega
theorem keepFrom_mem : ∀ (l : List Step) (m : Mach), ∀ s ∈ keepFrom m l, s ∈ l
  | [], _, s, h => h
  | t :: l, m, s, h => by
    unfold keepFrom at h
    rcases List.mem_append.1 h with h | h
    · unfold keepE at h
      split at h
      · rw [List.mem_singleton.1 h]; simp
      · cases h
    · exact List.mem_cons_of_mem _ (keepFrom_mem l _ s h)
def sel (x : Step) (y : Option Step) : Bool := match y with
  | some y => decide (y.k = x.k) && (decide (x.k = 3) || decide (x.k = 5))
  | none => false
def dropN : List Step → List Step
  | [] => []
  | x :: l => if sel x l.head? then dropN l else x :: dropN l
theorem dropN_len : ∀ l : List Step, (dropN l).length ≤ l.length
  | [] => Nat.le_refl _
  | x :: l => by
    have := dropN_len l
    unfold dropN
    split <;> simp <;> omega
theorem dropN_mem : ∀ l : List Step, ∀ s ∈ dropN l, s ∈ l
  | [], s, h => h
  | x :: l, s, h => by
    unfold dropN at h
    split at h
    · exact List.mem_cons_of_mem _ (dropN_mem l s h)
    · rcases List.mem_cons.1 h with rfl | h
      · simp
      · exact List.mem_cons_of_mem _ (dropN_mem l s h)
theorem dropN_at {l : List Step} {k : Nat} {x : Step} (h : l[k]? = some x) : dropN (l.drop k) = if sel x l[k + 1]? then dropN (l.drop (k + 1)) else x :: dropN (l.drop (k + 1)) := by
  rw [drop_cons h, dropN, List.head?_drop]
def shortF (l : List Step) : List Step := dropN (keepFrom Mach.zero l)
theorem shortF_len (l : List Step) : (shortF l).length ≤ l.length := Nat.le_trans (dropN_len _) (keepFrom_len _ _)
theorem shortF_mem {l : List Step} : ∀ s ∈ shortF l, s ∈ l := fun s h => keepFrom_mem _ _ s (dropN_mem _ s h)
def shortI : Nat → List Step → List Step
  | 0, l => l
  | n + 1, l => if (shortF l).length = l.length then l else shortI n (shortF l)
def shortS (l : List Step) : List Step := shortI (l.length + 1) l
theorem shortI_mem : ∀ (n : Nat) (l : List Step), ∀ s ∈ shortI n l, s ∈ l
  | 0, l, s, h => h
  | n + 1, l, s, h => by
    unfold shortI at h
    split at h
    · exact h
    · exact shortF_mem s (shortI_mem n _ s h)
theorem shortI_len : ∀ (n : Nat) (l : List Step), (shortI n l).length ≤ l.length
  | 0, l => Nat.le_refl _
  | n + 1, l => by
    unfold shortI
    split
    · exact Nat.le_refl _
    · exact Nat.le_trans (shortI_len n _) (shortF_len l)
/-- Where the making stands. -/
def ShortJ (l out : List Step) : Prop := (∃ n, out.length < n ∧ shortI n out = shortS l) ∧ (∀ s ∈ out, s ∈ l) ∧ out.length ≤ l.length
theorem shortJ_zero (l : List Step) : ShortJ l l := ⟨⟨l.length + 1, by omega, rfl⟩, fun _ h => h, Nat.le_refl _⟩
theorem shortJ_end {l out : List Step} (h : ShortJ l out) (he : (shortF out).length = out.length) : out = shortS l := by
  obtain ⟨⟨n, hn, h1⟩, _⟩ := h
  obtain ⟨m, rfl⟩ : ∃ m, n = m + 1 := ⟨n - 1, by omega⟩
  rw [shortI, if_pos he] at h1
  exact h1
theorem shortJ_next {l out : List Step} (h : ShortJ l out) (he : ¬ (shortF out).length = out.length) : ShortJ l (shortF out) ∧ (shortF out).length < out.length := by
  obtain ⟨⟨n, hn, h1⟩, h2, h3⟩ := h
  obtain ⟨m, rfl⟩ : ∃ m, n = m + 1 := ⟨n - 1, by omega⟩
  rw [shortI, if_neg he] at h1
  have := shortF_len out
  exact ⟨⟨⟨m, by omega, h1⟩, fun s hs => h2 s (shortF_mem s hs), by omega⟩, by omega⟩
theorem last_fl {l : List Step} : in64 (lastS l).fl := by
  unfold lastS
  suffices ∀ (l : List Step) (m : Mach), in64 m.fl → in64 (l.foldl afterS m).fl from this l _ (by simp [in64])
  intro l
  induction l with
  | nil => exact fun m h => h
  | cons s l ih => exact fun m h => ih _ (afterS_fl h)
theorem first_faults : ∀ {l : List Step}, firstF l = 0 → ∀ s ∈ l, faultS s = 0
  | [], _, s, hs => by cases hs
  | t :: l, h, s, hs => by
    unfold firstF at h
    split at h
    · rename_i h0
      rcases List.mem_cons.1 hs with rfl | hs
      · exact h0
      · exact first_faults h s hs
    · rename_i h0; exact absurd h h0
theorem prog_faults {l : List Step} (h : progF l = 0) : ∀ s ∈ l, faultS s = 0 := by
  unfold progF at h
  split at h
  · omega
  · exact first_faults h
end Go.Proofs.Ytpbedckdnoogpaa
