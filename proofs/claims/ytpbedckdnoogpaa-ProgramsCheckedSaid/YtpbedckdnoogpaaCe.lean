/- Running programs, by value. -/
import Derived.Test.YtpbedckdnoogpaaCd
import Derived.Test.YtpbedckdnoogpaaCc
set_option linter.unusedSimpArgs false
set_option linter.unusedVariables false
namespace Go.Proofs.Ytpbedckdnoogpaa
open Go Go.RowKit
set_option maxRecDepth 100000
theorem lastS_succ {l : List Step} {k : Nat} {s : Step} (h : l[k]? = some s) : lastS (l.take (k + 1)) = afterS (lastS (l.take k)) s := by
  rw [take_next h, lastS, List.foldl_append]; rfl
theorem last1_a (k : Int) (a b : Mach) : ACalls Try.prog 94 [.c (I k), .a (a.row.map .c), .a (b.row.map .c)] [] fun u H => u = .t [] ∧ H = [] := by
  refine acalls_of (N := 6) Try.func94 rfl rfl (by simp) fun E hE => ?_
  refine WA ?_
  exact aret_0 [] (fun _ => []) (.inr rfl) rfl (by decide) (ZNK rfl) (fun _ => .nil) (fun _ => ⟨rfl, rfl⟩)
theorem runLast_a (l : List Step) (v : Value) (hl : l.length ≤ 1000000) (hok : ∀ s ∈ l, s.ok) : ACalls Try.prog 92 [.c (prog_r v l), .f (.func 94) []] [] fun u H => u = .a ((lastS l).row.map .c) ∧ H = [] := by
  have e1 : (l.map Step.row).length = l.length := by simp
  refine acalls_of (N := 27) Try.func92 rfl rfl (by simp) fun E hE => ?_
  refine WA ?_
  refine WA ?_
  refine WA ?_
  refine aw_loopw (fun n F H => ∃ k : Nat, n + k = l.length ∧ F = [(1, .f (.func 94) []), (4, .p 0 0 0), (5, .p 1 0 0), (9, .c (prog_r v l)), (10, .c (I (l.map Step.row).length)), (11, .c (I k))] ∧ H = [.box (Mach.zero.row.map .c), .box ((lastS (l.take k)).row.map .c)]) ?_ ?_
  · refine wk_of [some 0, some 1] (fun _ => [(1, .f (.func 94) []), (4, .p 0 0 0), (5, .p 1 0 0), (9, .c (prog_r v l)), (10, .c (I (l.map Step.row).length)), (11, .c (I (0 : Nat)))]) (fun _ => _) (by decide) (ZNL hE) ZCF ZCH (fun _ => ?_)
    exact ⟨l.length, 0, by omega, rfl, rfl⟩
  rintro n F H ⟨k, hk, rfl, rfl⟩
  refine WA ?_
  refine aw_if rfl (fun hlt => ?_) (fun hge => ?_)
  · obtain ⟨s, hs⟩ : ∃ s, l[k]? = some s := ⟨_, List.getElem?_eq_getElem (by omega)⟩
    have hrow : (l.map Step.row)[k]? = some s.row := by rw [List.getElem?_map, hs]; rfl
    have hso := hok s (List.mem_of_getElem? hs)
    refine WA ?_
    refine WA ?_
    refine WR ?_
    refine al_ef rfl (ef_call0 false (fun _ => after_a (lastS (l.take k)) s hso) rfl .fn rfl (by decide) (by kernel_rfl) rfl (fun _ => C0 rfl) (by simp)) ?_
    rintro _ _ ⟨_, _, _, ⟨rfl, rfl⟩, hF, hH⟩
    (try simp only [nsl, Nat.reduceAdd, Nat.reduceLT, Nat.reduceSub] at hF); (try simp only [nsl, Nat.reduceAdd, Nat.reduceLT, Nat.reduceSub] at hH); subst hF; subst hH
    refine WE ?_
    refine WR ?_
    refine al_ef rfl (ef_call0 false (fun _ => last1_a k (lastS (l.take k)) (afterS (lastS (l.take k)) s)) rfl (.clo rfl) rfl (by decide) (by kernel_rfl) rfl (fun _ => C0 rfl) (by simp)) ?_
    rintro _ _ ⟨_, _, _, ⟨rfl, rfl⟩, hF, hH⟩
    (try simp only [nsl, Nat.reduceAdd, Nat.reduceLT, Nat.reduceSub] at hF); (try simp only [nsl, Nat.reduceAdd, Nat.reduceLT, Nat.reduceSub] at hH); subst hF; subst hH
    refine WE ?_
    refine WA ?_
    refine wk_of [some 0, some 1] (fun _ => [(1, .f (.func 94) []), (4, .p 0 0 0), (5, .p 1 0 0), (9, .c (prog_r v l)), (10, .c (I (l.map Step.row).length)), (11, .c (I (k + 1 : Nat)))]) (fun _ => _) (by decide) (ZNL hE) ZCF ZCH (fun _ => ?_)
    exact ⟨n - 1, by omega, k + 1, by omega, rfl, by rw [lastS_succ hs]; rfl⟩
  refine WA ?_
  refine aret_a [] _ rfl (KK (t := 42) rfl) rfl (Cells.box rfl) (by simp) (by (try simp only [nm, putL, Nat.reduceAdd, cellsOf, cvOf]) <;> rfl) (by decide) (ZNK rfl) (fun _ => C0 rfl) (fun _ => .nil) ⟨?_, rfl⟩
  rw [List.take_of_length_le (by omega)]; rfl
theorem last_a (l : List Step) (v : Value) (hl : l.length ≤ 1000000) (hok : ∀ s ∈ l, s.ok) : ACalls Try.prog 17 [.c (prog_r v l)] [] fun u H => u = .t [.a ((if progF l = 0 then lastS l else Mach.zero).row.map .c), .c (I (progF l))] ∧ H = [] := by
  refine acalls_of (N := 13) Try.func17 rfl rfl (by simp) fun E hE => ?_
  refine WA ?_
  refine WR ?_
  refine al_ef rfl (ef_call0 false (fun _ => check_a l v (by omega)) rfl .fn rfl (by decide) (by kernel_rfl) rfl (fun _ => C0 rfl) (by simp)) ?_
  rintro _ _ ⟨_, _, _, ⟨rfl, rfl⟩, hF, hH⟩
  (try simp only [nsl, Nat.reduceAdd, Nat.reduceLT, Nat.reduceSub] at hF); (try simp only [nsl, Nat.reduceAdd, Nat.reduceLT, Nat.reduceSub] at hH); subst hF; subst hH
  refine WE ?_
  refine WA ?_
  refine aw_if rfl (fun hne => ?_) (fun heq => ?_)
  · refine WA ?_
    exact aret_a2 [] _ rfl (KK (t := 42) rfl) rfl (Cells.box rfl) (by simp) (by (try simp only [nm, putL, Nat.reduceAdd, cellsOf, cvOf]) <;> rfl) rfl rfl (by decide) (ZNK rfl) (fun _ => C0 rfl) (fun _ => .nil) ⟨by rw [if_neg hne]; rfl, rfl⟩
  · have h0 : progF l = 0 := by omega
    refine ZZ ?_
    refine WR ?_
    refine al_ef rfl (ef_call0 false (fun _ => runLast_a l v hl hok) rfl .fn rfl (by decide) (by kernel_rfl) rfl (fun _ => C0 rfl) (by simp)) ?_
    rintro _ _ ⟨_, _, _, ⟨rfl, rfl⟩, hF, hH⟩
    (try simp only [nsl, Nat.reduceAdd, Nat.reduceLT, Nat.reduceSub] at hF); (try simp only [nsl, Nat.reduceAdd, Nat.reduceLT, Nat.reduceSub] at hH); subst hF; subst hH
    refine WE ?_
    exact aret_a2 [] _ rfl (KK (t := 42) rfl) rfl (Cells.box rfl) (by simp) (by (try simp only [nm, putL, Nat.reduceAdd, cellsOf, cvOf]) <;> rfl) rfl rfl (by decide) (ZNK rfl) (fun _ => C0 rfl) (fun _ => .nil) ⟨by rw [if_pos h0, h0]; rfl, rfl⟩
end Go.Proofs.Ytpbedckdnoogpaa
