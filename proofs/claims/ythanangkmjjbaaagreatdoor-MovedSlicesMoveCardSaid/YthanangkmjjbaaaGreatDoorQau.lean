/- A pyramid's surface, by value: its arrays are new. -/
import Derived.Test.YthanangkmjjbaaaGreatDoorQas
import Derived.Test.YthanangkmjjbaaaGreatDoorQat
import Derived.Laws.StructEq
import Derived.Test.YthanangkmjjbaaaGreatDoorQap
set_option linter.unusedSimpArgs false
set_option linter.unusedVariables false
/- The program's fault of a mesh, by value: a map of sides. -/
-- NEWM
namespace Go.Proofs.YthanangkmjjbaaaGreatDoor
open Go Go.RowKit
set_option maxRecDepth 100000
/-- Sides as keys. -/
def encS : Enc Sid2 := ⟨fun s => .agg #[.int .i64 s.f, .int .i64 s.t], fun s => .a (s.row.map .c), fun s ρ H => by simp [AV.den, AV.denL, CV.den], fun s w S ρ H => .a fun x hx => by
  simp only [List.map_cons, List.map_nil, List.mem_cons, List.not_mem_nil, or_false] at hx
  rcases hx with rfl | rfl
  · exact .c (.s _)
  · exact .c (.s _)⟩
def encB : Enc Bool := ⟨fun b => .bool b, fun b => .c (B b), fun b ρ H => rfl, fun b w S ρ H => .c (.s _)⟩
theorem chkI (b : Bool) (z : Int) (w : World) : (Instr.checkKey b 9999 3 (.int .i64 z)).run Tryz.prog w = .ok () w := by
  rw [show (9999 : Nat) = 9998 + 1 from rfl, Instr.checkKey]
  simp only [Sem.run_bind, mp_under Tryz.underlying3, Result.andThen_ok]
  rfl
theorem keySide (a b c d : Int) (w : World) : (Op.equal 54 (.agg #[.int .i64 a, .int .i64 b]) (.agg #[.int .i64 c, .int .i64 d])).run Tryz.prog w = .ok (a == c && b == d) w := by
  have u3 := Tryz.underlying3
  have a3 := Tryz.isAgg3
  have z3 := Tryz.sizeOf3
  have hS : Tryz.prog.underlying 54 = some (.struct (Tryz.prog.fieldsOf 54)) := by kernel_rfl
  have hp : Tryz.prog.stoodInHeld 54 = false := by kernel_rfl
  unfold Op.equal Op.maxDepth
  rw [show (10000 : Nat) = 9999 + 1 from rfl, run_equalIn_agg w 9999 54 _ _ hS hp]
  simp only [Program.fieldsOf, Tryz.underlying54]
  go_simp
  by_cases h1 : a = c <;> by_cases h2 : b = d <;> simp [h1, h2]
theorem keySidc (em : Bool) (a b : Int) (w : World) : (Instr.checkKey em 10000 54 (.agg #[.int .i64 a, .int .i64 b])).run Tryz.prog w = .ok () w := by
  have u3 := Tryz.underlying3
  have a3 := Tryz.isAgg3
  have z3 := Tryz.sizeOf3
  have hc := chkI em
  rw [show (10000 : Nat) = 9999 + 1 from rfl, Instr.checkKey]
  simp only [Sem.run_bind, mp_under Tryz.underlying54, Result.andThen_ok]
  go_simp
theorem keyS : KeyOk Tryz.prog 54 encS := by
  refine .ask Tryz.underlying54 (fun _ _ => rfl) (fun a b w => ?_) (fun b a w => keySidc _ _ _ w) (fun a => ?_)
  · simp only [encS]
    rw [keySide]
    congr 1
    rw [Bool.eq_iff_iff]
    simp [sid_eq]
  · simp [encS, Instr.sameBits]
theorem rd_to {P : Program} {N : Nat} {E : Env} {F : Fm} {H : List OB} {o : Oper} {l l' : List AV} (e : l = l') (h : Rd P N E o F H (.a l)) : Rd P N E o F H (.a l') := e ▸ h
theorem farI_b (n : Int) (b : Bool) (h : farI n = b) : ACalls Tryz.prog 120 [.c (I n)] [] fun u H => u = .c (B b) ∧ H = [] := h ▸ farI_v n
theorem checkmesh_v (v w : Value) (V : List Vec3) (Fs : List Fac3) (hVl : V.length ≤ 1000000) (hFl : Fs.length ≤ 1000000) : ACalls Tryz.prog 67 [mshA v w V Fs] [] fun u H => u = .c (I (mshF V Fs)) ∧ H = [] := by
  have e1 : (vR V).length = V.length := by simp
  have e2 : (fR Fs).length = Fs.length := by simp
  have e1' : (V.map Vec3.row).length = V.length := by simp
  have e2' : (Fs.map Fac3.row).length = Fs.length := by simp
  refine acalls_of (N := 82) Tryz.func67 rfl rfl (by simp) fun E hE => ?_
  refine WA ?_
  refine WA ?_
  refine aw_if rfl (fun h0 => ?_) (fun h0 => ?_)
  · refine WA ?_
    refine aret_1 [] _ rfl rfl rfl (by decide) (ZNK rfl) (fun _ => .nil) ⟨?_, rfl⟩
    rw [mshF, if_pos (List.eq_nil_of_length_eq_zero (show Fs.length = 0 by omega))]
  have hne : ¬ Fs = [] := fun h => by rw [h] at h0; simp at h0
  refine ZZ ?_
  by_cases hb : 1000 < V.length ∨ 1000 < Fs.length
  · have hres : mshF V Fs = 2 := by rw [mshF, if_neg hne, if_pos hb]
    by_cases hb1 : (1000 : Int) < ((V.map Vec3.row).length : Int)
    · refine WA ?_
      refine aw_cond_t rfl ?_
      refine WA ?_
      exact aret_1 [] _ rfl rfl rfl (by decide) (ZNK rfl) (fun _ => .nil) ⟨by rw [hres], rfl⟩
    · refine WA ?_
      refine aw_cond rfl (fun _ => ?_) (fun h => absurd h (by simp; try omega))
      refine WA ?_
      exact aret_1 [] _ rfl rfl rfl (by decide) (ZNK rfl) (fun _ => .nil) ⟨by rw [hres], rfl⟩
  have hb1 : ¬ (1000 : Int) < ((V.map Vec3.row).length : Int) := fun h => hb (.inl (by omega))
  have hb2 : ¬ 1000 < Fs.length := fun h => hb (.inr h)
  refine WA ?_
  refine aw_cond rfl (fun h => absurd h (by simp; try omega)) (fun _ => ?_)
  refine ZZ ?_
  refine WA ?_
  refine aw_loopw (fun m F H => ∃ (k : Nat), m + k = V.length ∧ (V.drop k).any farV = V.any farV ∧ F = [(1, .p 0 0 0), (28, .c (.r v (vR V))), (29, .c (I (vR V).length)), (30, .c (I k))] ∧ H = [mBox v w V (fR Fs)]) ?_ ?_
  · refine wk_of [some 0] (fun _ => [(1, .p 0 0 0), (28, .c (.r v (vR V))), (29, .c (I (vR V).length)), (30, .c (I (0 : Nat)))]) (fun _ => [mBox v w V (fR Fs)]) (by decide) (ZNL hE) ZCF ZCH (fun _ => ?_)
    exact ⟨V.length, 0, by omega, rfl, rfl, rfl⟩
  · rintro m F H ⟨k, hk, hf, rfl, rfl⟩
    refine WA ?_
    refine aw_if rfl (fun hlt => ?_) (fun hge => ?_)
    · obtain ⟨z, hz⟩ : ∃ z, V[k]? = some z := ⟨_, List.getElem?_eq_getElem (by omega)⟩
      have hfd := any_dropk farV hz
      obtain ⟨zx, zy, zz⟩ := z
      have hrow : (vR V)[k]? = some [I zx, I zy, I zz] := by rw [List.getElem?_map, hz]; rfl
      have hfar : farV ⟨zx, zy, zz⟩ = true → mshF V Fs = 1 := fun h => by
        have h2 : V.any farV = true := by rw [← hf, hfd, h]; rfl
        rw [mshF, if_neg hne, if_neg hb, if_pos h2]
      refine WA ?_
      cases hx : farI zx with
      | true =>
        refine WR ?_
        refine al_ef rfl (ef_call0 false (fun _ => farI_b zx true hx) rfl .fn rfl (by decide) (by kernel_rfl) rfl (fun _g => .cons (.c rfl) .nil) (by simp)) ?_
        rintro _ _ ⟨_, _, _, ⟨rfl, rfl⟩, hF, hH⟩
        (try simp only [nsl, Nat.reduceAdd, Nat.reduceLT, Nat.reduceSub] at hF); (try simp only [nsl, Nat.reduceAdd, Nat.reduceLT, Nat.reduceSub] at hH); subst hF; subst hH
        refine WE ?_
        refine aw_cond_t rfl ?_
        refine WA ?_
        exact aret_1 [] _ rfl rfl rfl (by decide) (ZNK rfl) (fun _ => .nil) ⟨by rw [hfar (by simp [farV, hx])], rfl⟩
      | false =>
        cases hy : farI zy with
        | true =>
          refine WR ?_
          refine al_ef rfl (ef_call0 false (fun _ => farI_b zx false hx) rfl .fn rfl (by decide) (by kernel_rfl) rfl (fun _g => .cons (.c rfl) .nil) (by simp)) ?_
          rintro _ _ ⟨_, _, _, ⟨rfl, rfl⟩, hF, hH⟩
          (try simp only [nsl, Nat.reduceAdd, Nat.reduceLT, Nat.reduceSub] at hF); (try simp only [nsl, Nat.reduceAdd, Nat.reduceLT, Nat.reduceSub] at hH); subst hF; subst hH
          refine WO ?_
          refine G1 rfl ?_
          refine al_ef rfl (ef_call0 false (fun _ => farI_b zy true hy) rfl .fn rfl (by decide) (by kernel_rfl) rfl (fun _g => .cons (.c rfl) .nil) (by simp)) ?_
          rintro _ _ ⟨_, _, _, ⟨rfl, rfl⟩, hF, hH⟩
          (try simp only [nsl, Nat.reduceAdd, Nat.reduceLT, Nat.reduceSub] at hF); (try simp only [nsl, Nat.reduceAdd, Nat.reduceLT, Nat.reduceSub] at hH); subst hF; subst hH
          refine WE ?_
          refine aw_cond_t rfl ?_
          refine WA ?_
          exact aret_1 [] _ rfl rfl rfl (by decide) (ZNK rfl) (fun _ => .nil) ⟨by rw [hfar (by simp [farV, hy])], rfl⟩
        | false =>
          cases hzz : farI zz with
          | true =>
            refine WR ?_
            refine al_ef rfl (ef_call0 false (fun _ => farI_b zx false hx) rfl .fn rfl (by decide) (by kernel_rfl) rfl (fun _g => .cons (.c rfl) .nil) (by simp)) ?_
            rintro _ _ ⟨_, _, _, ⟨rfl, rfl⟩, hF, hH⟩
            (try simp only [nsl, Nat.reduceAdd, Nat.reduceLT, Nat.reduceSub] at hF); (try simp only [nsl, Nat.reduceAdd, Nat.reduceLT, Nat.reduceSub] at hH); subst hF; subst hH
            refine WO ?_
            refine G1 rfl ?_
            refine al_ef rfl (ef_call0 false (fun _ => farI_b zy false hy) rfl .fn rfl (by decide) (by kernel_rfl) rfl (fun _g => .cons (.c rfl) .nil) (by simp)) ?_
            rintro _ _ ⟨_, _, _, ⟨rfl, rfl⟩, hF, hH⟩
            (try simp only [nsl, Nat.reduceAdd, Nat.reduceLT, Nat.reduceSub] at hF); (try simp only [nsl, Nat.reduceAdd, Nat.reduceLT, Nat.reduceSub] at hH); subst hF; subst hH
            refine WO ?_
            refine G1 rfl ?_
            refine al_ef rfl (ef_call0 false (fun _ => farI_b zz true hzz) rfl .fn rfl (by decide) (by kernel_rfl) rfl (fun _g => .cons (.c rfl) .nil) (by simp)) ?_
            rintro _ _ ⟨_, _, _, ⟨rfl, rfl⟩, hF, hH⟩
            (try simp only [nsl, Nat.reduceAdd, Nat.reduceLT, Nat.reduceSub] at hF); (try simp only [nsl, Nat.reduceAdd, Nat.reduceLT, Nat.reduceSub] at hH); subst hF; subst hH
            refine WE ?_
            refine aw_cond_t rfl ?_
            refine WA ?_
            exact aret_1 [] _ rfl rfl rfl (by decide) (ZNK rfl) (fun _ => .nil) ⟨by rw [hfar (by simp [farV, hzz])], rfl⟩
          | false =>
            refine WR ?_
            refine al_ef rfl (ef_call0 false (fun _ => farI_b zx false hx) rfl .fn rfl (by decide) (by kernel_rfl) rfl (fun _g => .cons (.c rfl) .nil) (by simp)) ?_
            rintro _ _ ⟨_, _, _, ⟨rfl, rfl⟩, hF, hH⟩
            (try simp only [nsl, Nat.reduceAdd, Nat.reduceLT, Nat.reduceSub] at hF); (try simp only [nsl, Nat.reduceAdd, Nat.reduceLT, Nat.reduceSub] at hH); subst hF; subst hH
            refine WO ?_
            refine G1 rfl ?_
            refine al_ef rfl (ef_call0 false (fun _ => farI_b zy false hy) rfl .fn rfl (by decide) (by kernel_rfl) rfl (fun _g => .cons (.c rfl) .nil) (by simp)) ?_
            rintro _ _ ⟨_, _, _, ⟨rfl, rfl⟩, hF, hH⟩
            (try simp only [nsl, Nat.reduceAdd, Nat.reduceLT, Nat.reduceSub] at hF); (try simp only [nsl, Nat.reduceAdd, Nat.reduceLT, Nat.reduceSub] at hH); subst hF; subst hH
            refine WO ?_
            refine G1 rfl ?_
            refine al_ef rfl (ef_call0 false (fun _ => farI_b zz false hzz) rfl .fn rfl (by decide) (by kernel_rfl) rfl (fun _g => .cons (.c rfl) .nil) (by simp)) ?_
            rintro _ _ ⟨_, _, _, ⟨rfl, rfl⟩, hF, hH⟩
            (try simp only [nsl, Nat.reduceAdd, Nat.reduceLT, Nat.reduceSub] at hF); (try simp only [nsl, Nat.reduceAdd, Nat.reduceLT, Nat.reduceSub] at hH); subst hF; subst hH
            refine WE ?_
            refine aw_cond_f rfl ?_
            refine ZZ ?_
            refine WA ?_
            refine wk_of [some 0] (fun _ => [(1, .p 0 0 0), (28, .c (.r v (vR V))), (29, .c (I (vR V).length)), (30, .c (I (k + 1 : Nat)))]) (fun _ => [mBox v w V (fR Fs)]) (by decide) (ZNL hE) ZCF ZCH (fun _ => ?_)
            exact ⟨m - 1, by omega, k + 1, by omega, by rw [← hf, hfd]; simp [farV, hx, hy, hzz], rfl, rfl⟩
    have hfar : ¬ V.any farV = true := by
      rw [← hf, List.drop_eq_nil_of_le (by omega)]; simp
    have hV : ∀ v ∈ V, farV v = false := fun v hv => by
      cases hq : farV v with
      | false => rfl
      | true => exact absurd (List.any_eq_true.2 ⟨v, hv, hq⟩) hfar
    have e3 : mshF V Fs = if fst0 (Fs.map (ffR V)) ≠ 0 then fst0 (Fs.map (ffR V)) else if dupS [] (Fs.flatMap sds) = true then 6 else 0 := by rw [mshF, if_neg hne, if_neg hb, if_neg hfar]
    refine ZZ ?_
    refine WA ?_
    refine aw_loopw (fun m F H => ∃ (k : Nat), m + k = Fs.length ∧ fst0 ((Fs.map (ffR V)).take k) = 0 ∧ F = [(1, .p 0 0 0), (49, .c (.r w (fR Fs))), (50, .c (I (fR Fs).length)), (51, .c (I k))] ∧ H = [mBox v w V (fR Fs)]) ?_ ?_
    · refine wk_of [some 0] (fun _ => [(1, .p 0 0 0), (49, .c (.r w (fR Fs))), (50, .c (I (fR Fs).length)), (51, .c (I (0 : Nat)))]) (fun _ => [mBox v w V (fR Fs)]) (by decide) (ZNL hE) ZCF ZCH (fun _ => ?_)
      exact ⟨Fs.length, 0, by omega, by simp [fst0], rfl, rfl⟩
    · rintro m F H ⟨k, hk, hf, rfl, rfl⟩
      refine WA ?_
      refine aw_if rfl (fun hlt => ?_) (fun hge => ?_)
      · obtain ⟨f, hz⟩ : ∃ z, Fs[k]? = some z := ⟨_, List.getElem?_eq_getElem (by omega)⟩
        have hmap : (Fs.map (ffR V))[k]? = some (ffR V f) := by rw [List.getElem?_map, hz]; rfl
        obtain ⟨fa, fb, fc⟩ := f
        have hrow : (fR Fs)[k]? = some [I fa, I fb, I fc] := by rw [List.getElem?_map, hz]; rfl
        refine WA ?_
        refine WR ?_
        refine al_ef rfl (ef_call0 false (fun _ => facefault_v v w V (fR Fs) ⟨fa, fb, fc⟩ hV (by omega)) rfl .fn rfl (by decide) (by kernel_rfl) rfl (fun _ => C0 rfl) (by simp)) ?_
        rintro _ _ ⟨_, _, _, ⟨rfl, rfl⟩, hF, hH⟩
        (try simp only [nsl, Nat.reduceAdd, Nat.reduceLT, Nat.reduceSub] at hF); (try simp only [nsl, Nat.reduceAdd, Nat.reduceLT, Nat.reduceSub] at hH); subst hF; subst hH
        refine WE ?_
        refine WA ?_
        refine aw_if rfl (fun hv => ?_) (fun hv => ?_)
        · refine WA ?_
          refine aret_1 [] _ rfl rfl rfl (by decide) (ZNK rfl) (fun _ => .nil) ⟨?_, rfl⟩
          rw [ffP_R] at hv ⊢
          rw [e3, fst0_at hf hmap hv, if_pos hv]
        · refine WA ?_
          refine wk_of [some 0] (fun _ => [(1, .p 0 0 0), (49, .c (.r w (fR Fs))), (50, .c (I (fR Fs).length)), (51, .c (I (k + 1 : Nat)))]) (fun _ => [mBox v w V (fR Fs)]) (by decide) (ZNL hE) ZCF ZCH (fun _ => ?_)
          rw [ffP_R] at hv
          exact ⟨m - 1, by omega, k + 1, by omega, fst0_next hf hmap (by omega), rfl, rfl⟩
      have hall : fst0 (Fs.map (ffR V)) = 0 := by
        rw [List.take_of_length_le (by simp; omega)] at hf; exact hf
      rw [if_neg (by rw [hall]; simp)] at e3
      refine ZZ ?_
      refine ZR ?_
      refine al_ef rfl (ef_mkmap rfl rfl (by decide)) ?_
      rintro _ _ ⟨rfl, rfl⟩
      refine WE ?_
      refine WA ?_
      refine aw_loopw (fun m F H => ∃ (k mk : Nat) (ml : List (Nat × Sid2 × Bool)), m + k = Fs.length ∧ dupS [] ((Fs.take k).flatMap sds) = false ∧ (∀ s, (mget ml s).getD false = ((Fs.take k).flatMap sds).contains s) ∧ F = [(1, .p 0 0 0), (8, .mp 1), (64, .c (.r w (fR Fs))), (65, .c (I (fR Fs).length)), (66, .c (I k))] ∧ H = [mBox v w V (fR Fs), mpO encS encB ml mk]) ?_ ?_
      · refine wk_of [some 0, some 1] (fun _ => [(1, .p 0 0 0), (8, .mp 1), (64, .c (.r w (fR Fs))), (65, .c (I (fR Fs).length)), (66, .c (I (0 : Nat)))]) (fun _ => [mBox v w V (fR Fs), mpO encS encB [] 0]) (by decide) (ZNL hE) ZCF ZCH (fun _ => ?_)
        exact ⟨Fs.length, 0, 0, [], by omega, by simp [dupS], by simp [mget], rfl, rfl⟩
      · rintro m F H ⟨k, mk, ml, hk, hd, hm, rfl, rfl⟩
        refine WA ?_
        refine aw_if rfl (fun hlt => ?_) (fun hge => ?_)
        · obtain ⟨f, hz⟩ : ∃ z, Fs[k]? = some z := ⟨_, List.getElem?_eq_getElem (by omega)⟩
          obtain ⟨fa, fb, fc⟩ := f
          have hrow : (fR Fs)[k]? = some [I fa, I fb, I fc] := by rw [List.getElem?_map, hz]; rfl
          refine WA ?_
          refine WR ?_
          refine al_ef rfl (ef_call0 false (fun _ => sides_v ⟨fa, fb, fc⟩) rfl .fn rfl (by decide) (by kernel_rfl) rfl (fun _ => C0 rfl) (by simp)) ?_
          rintro _ _ ⟨_, _, _, ⟨rfl, rfl⟩, hF, hH⟩
          (try simp only [nsl, Nat.reduceAdd, Nat.reduceLT, Nat.reduceSub] at hF); (try simp only [nsl, Nat.reduceAdd, Nat.reduceLT, Nat.reduceSub] at hH); subst hF; subst hH
          refine WE ?_
          generalize hL : (Fs.take k).flatMap sds = L at hd hm ⊢
          refine aw_loopw (fun m2 F H => ∃ (j mk : Nat) (ml : List (Nat × Sid2 × Bool)), m2 + j = 3 ∧ dupS [] (L ++ (sds ⟨fa, fb, fc⟩).take j) = false ∧ (∀ s, (mget ml s).getD false = (L ++ (sds ⟨fa, fb, fc⟩).take j).contains s) ∧ F = [(1, .p 0 0 0), (8, .mp 1), (64, .c (.r w (fR Fs))), (65, .c (I (fR Fs).length)), (66, .c (I k)), (71, .a ((sdsC ⟨fa, fb, fc⟩).map .c)), (72, .c (I j))] ∧ H = [mBox v w V (fR Fs), mpO encS encB ml mk]) ?_ ?_
          · refine wk_of [some 0, some 1] (fun _ => [(1, .p 0 0 0), (8, .mp 1), (64, .c (.r w (fR Fs))), (65, .c (I (fR Fs).length)), (66, .c (I k)), (71, .a ((sdsC ⟨fa, fb, fc⟩).map .c)), (72, .c (I (0 : Nat)))]) (fun _ => [mBox v w V (fR Fs), mpO encS encB ml mk]) (by decide) (ZNL hE) ZCF ZCH (fun _ => ?_)
            exact ⟨3, 0, mk, ml, rfl, by simpa using hd, by simpa using hm, rfl, rfl⟩
          · rintro m2 F H ⟨j, mk, ml, hj, hd2, hm2, rfl, rfl⟩
            refine WA ?_
            refine aw_if rfl (fun hlt2 => ?_) (fun hge2 => ?_)
            · obtain ⟨s, hs⟩ : ∃ s, (sds ⟨fa, fb, fc⟩)[j]? = some s := ⟨_, List.getElem?_eq_getElem (by simp [sds]; omega)⟩
              obtain ⟨sf, st⟩ := s
              have hix : (((sdsC ⟨fa, fb, fc⟩).map AV.c).drop (j * 2)).take 2 = [.c (I sf), .c (I st)] := by
                have : j = 0 ∨ j = 1 ∨ j = 2 := by omega
                rcases this with rfl | rfl | rfl <;> (simp [sds] at hs; obtain ⟨rfl, rfl⟩ := hs; rfl)
              have htk : (sds ⟨fa, fb, fc⟩).take (j + 1) = (sds ⟨fa, fb, fc⟩).take j ++ [⟨sf, st⟩] := by rw [List.take_add_one, hs]; rfl
              have hsp := sd_split hz j
              rw [hL] at hsp
              have hdr : (sds ⟨fa, fb, fc⟩).drop j = ⟨sf, st⟩ :: (sds ⟨fa, fb, fc⟩).drop (j + 1) := by
                obtain ⟨h1, h2⟩ := List.getElem?_eq_some_iff.1 hs
                rw [List.drop_eq_getElem_cons h1, h2]
              generalize hM : L ++ (sds ⟨fa, fb, fc⟩).take j = M at hd2 hm2 hsp ⊢
              refine ZR ?_
              refine ZA (rd_to hix (rd_ixv (n := 3) (i := j) rfl (by kernel_rfl) (KK (t := 54) rfl) rfl rfl rfl (by omega))) ?_
              refine WE ?_
              refine ZR ?_
              iterate 2 refine WX1 ?_
              refine ZA (rd_lookup (ke := encS) (ve := encB) (k := ⟨sf, st⟩) (z := false) (l := ml) (ck := mk) keyS rfl Tryz.underlying207 (by kernel_rfl) rfl rfl rfl (fun ρ H => by simp [AV.den, AV.denL, CV.den, encS])) ?_
              refine WE ?_
              refine aw_cond (b := (mget ml ⟨sf, st⟩).getD false) rfl (fun hb => ?_) (fun hb => ?_)
              · refine WA ?_
                refine aret_1 [] _ rfl rfl rfl (by decide) (ZNK rfl) (fun _ => .nil) ⟨?_, rfl⟩
                rw [hm2] at hb
                have : dupS [] (Fs.flatMap sds) = true := by rw [hsp, hdr, List.cons_append]; exact dupS_hit hb
                rw [e3, if_pos this]
              · refine ZR ?_
                iterate 2 refine WX1 ?_
                refine al_ef rfl (ef_mapset (ke := encS) (ve := encB) (k := ⟨sf, st⟩) (z := true) (l := ml) (ck := mk) keyS rfl rfl Tryz.underlying207 rfl rfl rfl (fun ρ H => by simp [AV.den, AV.denL, CV.den, encS]) rfl (fun ρ H => rfl)) ?_
                rintro _ _ ⟨rfl, rfl⟩
                refine WE ?_
                refine WA ?_
                refine wk_of [some 0, some 1] (fun _ => [(1, .p 0 0 0), (8, .mp 1), (64, .c (.r w (fR Fs))), (65, .c (I (fR Fs).length)), (66, .c (I k)), (71, .a ((sdsC ⟨fa, fb, fc⟩).map .c)), (72, .c (I (j + 1 : Nat)))]) (fun _ => [mBox v w V (fR Fs), mpO encS encB (mset mk ⟨sf, st⟩ true ml) (mclk mk ⟨sf, st⟩ ml)]) (by decide) (ZNL hE) ZCF ZCH (fun _ => ?_)
                refine ⟨m2 - 1, by omega, j + 1, _, _, by omega, ?_, fun s => ?_, rfl, rfl⟩
                · rw [htk, ← List.append_assoc, hM, dupS_snoc hd2, ← hm2]; exact hb
                · rw [htk, ← List.append_assoc, hM, mget_mset]
                  by_cases h : s = ⟨sf, st⟩
                  · rw [if_pos h, h]; simp
                  · rw [if_neg h, hm2]; simp [h]
            refine ZZ ?_
            obtain rfl : j = 3 := by omega
            have h6 : L ++ (sds ⟨fa, fb, fc⟩).take 3 = (Fs.take (k + 1)).flatMap sds := by rw [sd_next hz, hL]; rfl
            rw [h6] at hd2 hm2
            refine WA ?_
            refine wk_of [some 0, some 1] (fun _ => [(1, .p 0 0 0), (8, .mp 1), (64, .c (.r w (fR Fs))), (65, .c (I (fR Fs).length)), (66, .c (I (k + 1 : Nat)))]) (fun _ => [mBox v w V (fR Fs), mpO encS encB ml mk]) (by decide) (ZNL hE) ZCF ZCH (fun _ => ?_)
            exact ⟨m - 1, by omega, k + 1, mk, ml, by omega, hd2, hm2, rfl, rfl⟩
        refine WA ?_
        refine aret_1 [] _ rfl rfl rfl (by decide) (ZNK rfl) (fun _ => .nil) ⟨?_, rfl⟩
        rw [List.take_of_length_le (by omega)] at hd
        rw [e3, hd]; rfl
end Go.Proofs.YthanangkmjjbaaaGreatDoor

/- Least and greatest of numbers; which vertices are used; the program's box, by value. -/
-- NEWM
namespace Go.Proofs.YthanangkmjjbaaaGreatDoor
open Go Go.RowKit
set_option maxRecDepth 100000
abbrev zR (l : List Int) : List (List CV) := l.map fun z => [I z]
theorem minI_v (l : List Int) (v : Value) (hn : l ≠ []) (hl : l.length ≤ 1000000000) : ACalls Tryz.prog 76 [.c (.r v (zR l))] [] fun u H => u = .c (I (minL l)) ∧ H = [] := by
  have e1 : (zR l).length = l.length := by simp
  have hp : 0 < l.length := List.length_pos_iff.2 hn
  obtain ⟨z0, hz0⟩ : ∃ z, l[0]? = some z := ⟨_, List.getElem?_eq_getElem hp⟩
  have hrow0 : (zR l)[0]? = some [I z0] := by rw [List.getElem?_map, hz0]; rfl
  have ht1 : l.take 1 = [z0] := by rw [List.take_add_one, hz0]; rfl
  refine acalls_of (N := 25) Tryz.func76 rfl rfl (by simp) fun E hE => ?_
  refine WA ?_
  refine WA ?_
  refine aw_cond rfl (fun h => absurd h (by simp; try omega)) (fun _ => ?_)
  refine ZZ ?_
  refine WA ?_
  refine WA ?_
  refine aw_loopw (fun m F H => ∃ (k : Nat), m + k = l.length ∧ 1 ≤ k ∧ F = [(0, .c (.r v (zR l))), (3, .c (I (minL (l.take k)))), (4, .c (I k))] ∧ H = []) ?_ ?_
  · refine wk_of [] (fun _ => [(0, .c (.r v (zR l))), (3, .c (I z0)), (4, .c (I (1 : Nat)))]) (fun _ => _) (by decide) (ZNL hE) ZCF (fun _ => .nil) (fun _ => ?_)
    exact ⟨l.length - 1, 1, by omega, by omega, by rw [ht1]; rfl, rfl⟩
  rintro m F H ⟨k, hk, hk1, rfl, rfl⟩
  refine WA ?_
  refine aw_if rfl (fun hlt => ?_) (fun hge => ?_)
  · obtain ⟨z, hz⟩ : ∃ z, l[k]? = some z := ⟨_, List.getElem?_eq_getElem (by omega)⟩
    have hrow : (zR l)[k]? = some [I z] := by rw [List.getElem?_map, hz]; rfl
    have hne : l.take k ≠ [] := fun h => by
      have := congrArg List.length h
      rw [List.length_take, List.length_nil] at this
      omega
    have ht : minL (l.take (k + 1)) = min (minL (l.take k)) z := by
      rw [List.take_add_one, hz]
      exact minL_snoc hne
    refine WA ?_
    refine WA ?_
    refine wk_of [] (fun _ => [(0, .c (.r v (zR l))), (3, .c (I (min (minL (l.take k)) z))), (4, .c (I (k + 1 : Nat)))]) (fun _ => _) (by decide) (ZNL hE) ZCF (fun _ => .nil) (fun _ => ?_)
    exact ⟨m - 1, by omega, k + 1, by omega, by omega, by rw [ht], rfl⟩
  refine WA ?_
  refine aret_1 [] _ rfl rfl rfl (by decide) (ZNK rfl) (fun _ => .nil) ⟨?_, rfl⟩
  rw [List.take_of_length_le (by omega)]
theorem maxI_v (l : List Int) (v : Value) (hn : l ≠ []) (hl : l.length ≤ 1000000000) : ACalls Tryz.prog 77 [.c (.r v (zR l))] [] fun u H => u = .c (I (maxL l)) ∧ H = [] := by
  have e1 : (zR l).length = l.length := by simp
  have hp : 0 < l.length := List.length_pos_iff.2 hn
  obtain ⟨z0, hz0⟩ : ∃ z, l[0]? = some z := ⟨_, List.getElem?_eq_getElem hp⟩
  have hrow0 : (zR l)[0]? = some [I z0] := by rw [List.getElem?_map, hz0]; rfl
  have ht1 : l.take 1 = [z0] := by rw [List.take_add_one, hz0]; rfl
  refine acalls_of (N := 25) Tryz.func77 rfl rfl (by simp) fun E hE => ?_
  refine WA ?_
  refine WA ?_
  refine aw_cond rfl (fun h => absurd h (by simp; try omega)) (fun _ => ?_)
  refine ZZ ?_
  refine WA ?_
  refine WA ?_
  refine aw_loopw (fun m F H => ∃ (k : Nat), m + k = l.length ∧ 1 ≤ k ∧ F = [(0, .c (.r v (zR l))), (3, .c (I (maxL (l.take k)))), (4, .c (I k))] ∧ H = []) ?_ ?_
  · refine wk_of [] (fun _ => [(0, .c (.r v (zR l))), (3, .c (I z0)), (4, .c (I (1 : Nat)))]) (fun _ => _) (by decide) (ZNL hE) ZCF (fun _ => .nil) (fun _ => ?_)
    exact ⟨l.length - 1, 1, by omega, by omega, by rw [ht1]; rfl, rfl⟩
  rintro m F H ⟨k, hk, hk1, rfl, rfl⟩
  refine WA ?_
  refine aw_if rfl (fun hlt => ?_) (fun hge => ?_)
  · obtain ⟨z, hz⟩ : ∃ z, l[k]? = some z := ⟨_, List.getElem?_eq_getElem (by omega)⟩
    have hrow : (zR l)[k]? = some [I z] := by rw [List.getElem?_map, hz]; rfl
    have hne : l.take k ≠ [] := fun h => by
      have := congrArg List.length h
      rw [List.length_take, List.length_nil] at this
      omega
    have ht : maxL (l.take (k + 1)) = max (maxL (l.take k)) z := by
      rw [List.take_add_one, hz]
      exact maxL_snoc hne
    refine WA ?_
    refine WA ?_
    refine wk_of [] (fun _ => [(0, .c (.r v (zR l))), (3, .c (I (max (maxL (l.take k)) z))), (4, .c (I (k + 1 : Nat)))]) (fun _ => _) (by decide) (ZNL hE) ZCF (fun _ => .nil) (fun _ => ?_)
    exact ⟨m - 1, by omega, k + 1, by omega, by omega, by rw [ht], rfl⟩
  refine WA ?_
  refine aret_1 [] _ rfl rfl rfl (by decide) (ZNK rfl) (fun _ => .nil) ⟨?_, rfl⟩
  rw [List.take_of_length_le (by omega)]
end Go.Proofs.YthanangkmjjbaaaGreatDoor

/- Several-order regions where three may come next. -/
namespace Go.Proofs.YthanangkmjjbaaaGreatDoor
open Go Go.RowKit
end Go.Proofs.YthanangkmjjbaaaGreatDoor

/- The reference's box, by value. -/
-- NEWM
namespace Go.Proofs.YthanangkmjjbaaaGreatDoor
open Go Go.RowKit
set_option maxRecDepth 100000
end Go.Proofs.YthanangkmjjbaaaGreatDoor

/- Heights: the program's and the reference's, by value. -/
-- NEWM
namespace Go.Proofs.YthanangkmjjbaaaGreatDoor
open Go Go.RowKit
set_option maxRecDepth 100000
end Go.Proofs.YthanangkmjjbaaaGreatDoor

/- Heights and places of the stream, by value. -/
-- NEWM
namespace Go.Proofs.YthanangkmjjbaaaGreatDoor
open Go Go.RowKit
set_option maxRecDepth 100000
end Go.Proofs.YthanangkmjjbaaaGreatDoor

/- A pyramid's surface, by value: its arrays are new. -/
-- NEWM
namespace Go.Proofs.YthanangkmjjbaaaGreatDoor
open Go Go.RowKit
set_option maxRecDepth 100000
def tetV (p : Vec3) (n : Int) : List Vec3 := [p, ⟨p.x + n, p.y, p.z⟩, ⟨p.x, p.y + n, p.z⟩, ⟨p.x, p.y, p.z + n⟩]
def tetF : List Fac3 := [⟨0, 2, 1⟩, ⟨0, 1, 3⟩, ⟨1, 2, 3⟩, ⟨0, 3, 2⟩]
theorem tetra_v (p : Vec3) (n : Int) (hp : (-4000000000000000000 ≤ p.x ∧ p.x ≤ 4000000000000000000) ∧ (-4000000000000000000 ≤ p.y ∧ p.y ≤ 4000000000000000000) ∧ (-4000000000000000000 ≤ p.z ∧ p.z ≤ 4000000000000000000)) (hn : 0 ≤ n ∧ n ≤ 1000) :
    ACalls Tryz.prog 40 [.a (p.row.map .c), .c (I n)] [] fun u H => u = .a [.o 0 0 4 4, .o 1 0 4 4] ∧ H = [.arr 34 3 4 (vR (tetV p n)), .arr 140 3 4 (fR tetF)] := by
  obtain ⟨x, y, z⟩ := p
  simp only at hp
  refine acalls_of (N := 40) Tryz.func40 rfl rfl (by simp) fun E hE => ?_
  refine WA ?_
  refine WA ?_
  exact aret_a [some 2, some 3] [.arr 34 3 4 (vR (tetV ⟨x, y, z⟩ n)), .arr 140 3 4 (fR tetF)] rfl (KK (t := 29) rfl) rfl (Cells.box rfl) (by simp) (by (try simp only [nm, putL, Nat.reduceAdd, cellsOf, cvOf]) <;> rfl) (by decide) (ZNK rfl) (fun _ => .cons (.o rfl rfl) (.cons (.o rfl rfl) .nil)) ZCH ⟨rfl, rfl⟩
end Go.Proofs.YthanangkmjjbaaaGreatDoor
