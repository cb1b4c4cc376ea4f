/- The reference's absolute forms and moments, by value. -/
import Derived.Test.YtpbedckdnoogpaaRd
set_option linter.unusedSimpArgs false
set_option linter.unusedVariables false
namespace Go.Proofs.Ytpbedckdnoogpaa
open Go Go.RowKit
set_option maxRecDepth 100000
theorem qabsof_a (l : List Step) (v : Value) (hl : l.length ≤ 1000000) (hok : ∀ s ∈ l, s.ok) : ACalls Try.prog 12 [.c (prog_r v l)] [] fun u H => ∃ v', u = .t [.c (prog_r v' (if progF (absS l) = 0 then absS l else [])), .c (I (progF (absS l)))] ∧ H = [] := by
  have hal : (absS l).length ≤ l.length := absFrom_len l Mach.zero
  refine acalls_of (N := 14) Try.func12 rfl rfl (by simp) fun E hE => ?_
  refine WA ?_
  refine WR ?_
  refine al_ef rfl (ef_call0 false (fun _ => qabs_a l v (by omega) hok) rfl .fn rfl (by decide) (by kernel_rfl) rfl (fun _ => C0 rfl) (by simp)) ?_
  rintro _ _ ⟨_, _, _, ⟨v', rfl, rfl⟩, hF, hH⟩
  (try simp only [nsl, Nat.reduceAdd, Nat.reduceLT, Nat.reduceSub] at hF); (try simp only [nsl, Nat.reduceAdd, Nat.reduceLT, Nat.reduceSub] at hH); subst hF; subst hH
  refine WE ?_
  refine WR ?_
  refine al_ef rfl (ef_call0 false (fun _ => qsteps_a (absS l) v' (by omega)) rfl .fn rfl (by decide) (by kernel_rfl) rfl (fun _ => C0 rfl) (by simp)) ?_
  rintro _ _ ⟨_, _, _, ⟨rfl, rfl⟩, hF, hH⟩
  (try simp only [nsl, Nat.reduceAdd, Nat.reduceLT, Nat.reduceSub] at hF); (try simp only [nsl, Nat.reduceAdd, Nat.reduceLT, Nat.reduceSub] at hH); subst hF; subst hH
  refine WE ?_
  refine WA ?_
  refine aw_if rfl (fun hne => ?_) (fun heq => ?_)
  · refine WA ?_
    exact aret_2 [] _ rfl rfl rfl rfl rfl (by decide) (ZNK rfl) (fun _ => .nil) ⟨_, by rw [if_neg hne]; rfl, rfl⟩
  · refine ZZ ?_
    refine WA ?_
    have h0 : progF (absS l) = 0 := by omega
    exact aret_2 [] _ rfl rfl rfl rfl rfl (by decide) (ZNK rfl) (fun _ => .nil) ⟨v', by rw [h0, if_pos rfl], rfl⟩
/-- A status with a wait. -/
structure Wt where
  m : Mach
  t : Int
abbrev Wt.row (d : Wt) : List CV := [I d.m.x, I d.m.y, I d.m.z, I d.m.sp, I d.m.he, I d.m.tl, I d.m.fl, B d.m.rel, I d.t]
structure MSt where
  out : List Wt
  now : Mach
  wait : Int
abbrev Mach.abs (m : Mach) : Mach := ⟨m.x, m.y, m.z, m.sp, m.he, m.tl, m.fl, false⟩
def waitS (wait : Int) (s : Step) : Int := if s.k = 7 then wrap64 (wait + s.n) else wait
def Mach.eq (a b : Mach) : Prop := a.x = b.x ∧ a.y = b.y ∧ a.z = b.z ∧ a.sp = b.sp ∧ a.he = b.he ∧ a.tl = b.tl ∧ a.fl = b.fl ∧ a.rel = b.rel
instance (a b : Mach) : Decidable (a.eq b) := by unfold Mach.eq; infer_instance
theorem Mach.eq_iff {a b : Mach} : a.eq b ↔ a = b := by
  obtain ⟨a1, a2, a3, a4, a5, a6, a7, a8⟩ := a
  obtain ⟨b1, b2, b3, b4, b5, b6, b7, b8⟩ := b
  simp [Mach.eq]
def stepMS (st : MSt) (s : Step) (is : Mach) : MSt :=
  if is.abs.eq st.now then ⟨st.out, st.now, waitS st.wait s⟩ else ⟨st.out ++ [⟨is.abs, waitS st.wait s⟩], is.abs, 0⟩
def momS (l : List Step) : Nat → MSt
  | 0 => ⟨[], Mach.zero, 0⟩
  | k + 1 => match l[k]? with
    | some s => stepMS (momS l k) s (lastS (l.take (k + 1)))
    | none => momS l k
theorem momS_succ {l : List Step} {k : Nat} {s : Step} (h : l[k]? = some s) : momS l (k + 1) = stepMS (momS l k) s (lastS (l.take (k + 1))) := by
  simp only [momS, h]
theorem qmoms_a (l : List Step) (v : Value) (hl : l.length ≤ 1000000) (hok : ∀ s ∈ l, s.ok) : ACalls Try.prog 98 [.c (prog_r v l)] [] fun u H => ∃ v', u = .t [.c (.r v' ((momS l l.length).out.map Wt.row)), .c (I (momS l l.length).wait)] ∧ H = [] := by
  have e1 : (l.map Step.row).length = l.length := by simp
  refine acalls_of (N := 44) Try.func98 rfl rfl (by simp) fun E hE => ?_
  refine WA ?_
  refine WA ?_
  refine WA ?_
  refine WA ?_
  refine aw_loopw (fun n F H => ∃ (k c : Nat) (out : List Wt) (now : Mach) (wait : Int), n + k = l.length ∧ out.length ≤ k ∧ momS l k = ⟨out, now, wait⟩ ∧ F = [(0, .c (prog_r v l)), (4, .o 0 0 out.length c), (5, .p 1 0 0), (6, .c (I wait)), (11, .c (prog_r v l)), (12, .c (I (l.map Step.row).length)), (13, .c (I k))] ∧ H = [.arr 132 9 c (out.map Wt.row), .box (now.row.map .c)]) ?_ ?_
  · refine wk_of [none, some 0] (fun _ => [(0, .c (prog_r v l)), (4, .o 0 0 0 0), (5, .p 1 0 0), (6, .c (I 0)), (11, .c (prog_r v l)), (12, .c (I (l.map Step.row).length)), (13, .c (I (0 : Nat)))]) (fun _ => [.arr 132 9 0 [], .box (Mach.zero.row.map .c)]) (by decide) (ZNL hE) ZCF ZCH (fun _ => ?_)
    exact ⟨l.length, 0, 0, [], Mach.zero, 0, by omega, by simp, rfl, rfl, rfl⟩
  rintro n F H ⟨k, c, out, now, wait, hk, hol, hf, rfl, rfl⟩
  refine WA ?_
  refine aw_if rfl (fun hlt => ?_) (fun hge => ?_)
  · obtain ⟨s, hs⟩ : ∃ s, l[k]? = some s := ⟨_, List.getElem?_eq_getElem (by omega)⟩
    have hrow : (l.map Step.row)[k]? = some s.row := by rw [List.getElem?_map, hs]; rfl
    have hms := momS_succ hs
    rw [hf] at hms
    refine WA ?_
    refine WR ?_
    refine al_nil ?_
    refine aseq_n ?_
    refine aw_cut (fun F H => F = [(0, .c (prog_r v l)), (4, .o 0 0 out.length c), (5, .p 1 0 0), (6, .c (I (waitS wait s))), (7, .c (I k)), (11, .c (prog_r v l)), (12, .c (I (l.map Step.row).length)), (13, .c (I k))] ∧ H = [.arr 132 9 c (out.map Wt.row), .box (now.row.map .c)]) ?_ ?_ wk_aw
    · refine aw_if rfl (fun h7 => ?_) (fun h7 => ?_)
      · refine WA ?_
        refine wk_of [some 0, some 1] (fun _ => [(0, .c (prog_r v l)), (4, .o 0 0 out.length c), (5, .p 1 0 0), (6, .c (I (wrap64 (wait + s.n)))), (7, .c (I k)), (11, .c (prog_r v l)), (12, .c (I (l.map Step.row).length)), (13, .c (I k))]) (fun _ => _) (by decide) (ZNL hE) ZCF ZCH (fun _ => ?_)
        exact ⟨by rw [waitS, if_pos h7], rfl⟩
      · refine ZZ ?_
        refine wk_of [some 0, some 1] (fun _ => [(0, .c (prog_r v l)), (4, .o 0 0 out.length c), (5, .p 1 0 0), (6, .c (I wait)), (7, .c (I k)), (11, .c (prog_r v l)), (12, .c (I (l.map Step.row).length)), (13, .c (I k))]) (fun _ => _) (by decide) (ZNL hE) ZCF ZCH (fun _ => ?_)
        exact ⟨by rw [waitS, if_neg h7], rfl⟩
    rintro F H ⟨rfl, rfl⟩
    refine ZR ?_
    iterate 3 refine WX1 ?_
    refine ZA (rd_slicer (l := 0) (h := k + 1) rfl (KE (t := 26) rfl) rfl (by intro row hr; obtain ⟨s, -, rfl⟩ := List.mem_map.1 hr; rfl) (.inl ⟨rfl, rfl⟩) (.inr ⟨_, _, _, rfl, rfl, by omega⟩) (by omega) (by omega)) ?_
    refine al_ef rfl (ef_call0 false (fun _ => qlast_a (l.take (k + 1)) (subV v 0 (k + 1) 6) (by simp; omega) (fun s hs => hok s (List.mem_of_mem_take hs))) rfl .fn rfl (by decide) (by kernel_rfl) rfl (fun _g => .cons (.c (by simp)) .nil) (by simp)) ?_
    rintro _ _ ⟨_, _, _, ⟨rfl, rfl⟩, hF, hH⟩
    (try simp only [nsl, Nat.reduceAdd, Nat.reduceLT, Nat.reduceSub] at hF); (try simp only [nsl, Nat.reduceAdd, Nat.reduceLT, Nat.reduceSub] at hH); subst hF; subst hH
    refine WE ?_
    refine WA ?_
    refine WA ?_
    refine aw_if rfl (fun hne => ?_) (fun heq => ?_)
    · refine WR ?_
      refine al_ef rfl (Zapp (KA (t := 127) rfl)) ?_
      rintro _ _ ⟨_, cc, hcc, rfl, rfl⟩
      refine WE ?_
      refine WA ?_
      refine WA ?_
      refine wk_of [some 0, some 1] (fun _ => [(0, .c (prog_r v l)), (4, .o 0 0 (out.length + 1) cc), (5, .p 1 0 0), (6, .c (I 0)), (11, .c (prog_r v l)), (12, .c (I (l.map Step.row).length)), (13, .c (I (k + 1 : Nat)))]) (fun _ => _) (by decide) (ZNL hE) ZCF ZCH (fun _ => ?_)
      refine ⟨n - 1, by omega, k + 1, cc, out ++ [⟨(lastS (l.take (k + 1))).abs, waitS wait s⟩], (lastS (l.take (k + 1))).abs, 0, by omega, by simp; omega, ?_, by simp, by simp⟩
      rw [hms, stepMS, if_neg (show ¬ (lastS (l.take (k + 1))).abs.eq now from hne)]
    · refine ZZ ?_
      refine WA ?_
      refine wk_of [some 0, some 1] (fun _ => [(0, .c (prog_r v l)), (4, .o 0 0 out.length c), (5, .p 1 0 0), (6, .c (I (waitS wait s))), (11, .c (prog_r v l)), (12, .c (I (l.map Step.row).length)), (13, .c (I (k + 1 : Nat)))]) (fun _ => _) (by decide) (ZNL hE) ZCF ZCH (fun _ => ?_)
      refine ⟨n - 1, by omega, k + 1, c, out, now, waitS wait s, by omega, by omega, ?_, rfl, rfl⟩
      rw [hms, stepMS, if_pos (show (lastS (l.take (k + 1))).abs.eq now from Decidable.not_not.1 heq)]
  refine WA ?_
  have hkl : k = l.length := by omega
  subst hkl
  exact aret_f2 [] [] rfl rfl rfl rfl rfl rfl (by rw [List.drop_zero, List.take_of_length_le (by simp)]) (by simp) (by decide) (by decide) (ZNK rfl) (fun _ => .nil) (fun v' => ⟨v', by rw [hf], rfl⟩)
end Go.Proofs.Ytpbedckdnoogpaa
