/- The document's speeds, by value: they are the program's. -/
import Derived.Test.YtpbedckdnoogpaaMd
import Derived.Test.YtpbedckdnoogpaaMq
set_option linter.unusedSimpArgs false
set_option linter.unusedVariables false
namespace Go.Proofs.Ytpbedckdnoogpaa
open Go Go.RowKit
set_option maxRecDepth 100000
theorem speedsof_a (l : List Leg) (cs : List Int) (ch : Int) (v w0 : Value) (hr : Right l cs) (hc : 1 ≤ ch ∧ ch ≤ 10000000) : ACalls Try.prog 46 [.c (legs_r v l), .c (ints_r w0 cs), .c (I ch)] [] fun u H => u = .o 0 0 (l.length + 1) (l.length + 1) ∧ H = [.arr 3 1 (l.length + 1) ((speedsS l cs ch).map fun z => [I z])] := by
  have e1 : (l.map Leg.row).length = l.length := by simp
  have e2 : (cs.map fun z => [I z]).length = cs.length := by simp
  have n1 := hr.ne
  have n2 := hr.le
  have n3 := hr.len
  refine acalls_of (N := 108) Try.func46 rfl rfl (by simp) fun E hE => ?_
  refine WA ?_
  refine WR ?_
  refine al_ef2 rfl (ef_maken (l := l.length + 1) (c := l.length + 1) rfl rfl (by decide) Try.underlying22 (KI (t := 3) rfl) rfl (by simp) rfl (by simp) (by omega) (by omega) (by omega) rfl rfl rfl (by (try simp only [nm, putL, Nat.reduceAdd, cellsOf, cvOf]) <;> rfl) (by (try simp only [nm, putL, Nat.reduceAdd, cellsOf, cvOf]) <;> rfl)) ?_
  refine WE ?_
  refine WA ?_
  refine aw_loopw (fun m F H => ∃ (k : Nat) (w : List Int), m + k + 1 = l.length ∧ MidC l cs k w ∧ F = [(0, .c (legs_r v l)), (2, .c (I ch)), (7, .o 0 0 (l.length + 1) (l.length + 1)), (20, .c (ints_r w0 cs)), (21, .c (I (cs.map fun z => [I z]).length)), (22, .c (I k))] ∧ H = [.arr 3 1 (l.length + 1) (w.map fun z => [I z])]) ?_ ?_
  · refine wk_of [some 0] (fun _ => [(0, .c (legs_r v l)), (2, .c (I ch)), (7, .o 0 0 (l.length + 1) (l.length + 1)), (20, .c (ints_r w0 cs)), (21, .c (I (cs.map fun z => [I z]).length)), (22, .c (I (0 : Nat)))]) (fun _ => _) (by decide) (ZNL hE) ZCF ZCH (fun _ => ?_)
    exact ⟨l.length - 1, 0, List.replicate (l.length + 1) 0, by omega, midC_zero l cs, rfl, by rw [List.map_replicate]⟩
  rintro m F H ⟨k, w, hk, hm, rfl, rfl⟩
  refine WA ?_
  refine aw_if rfl (fun hlt => ?_) (fun hge => ?_)
  · obtain ⟨x, hx⟩ : ∃ x, l[k]? = some x := ⟨_, List.getElem?_eq_getElem (by omega)⟩
    obtain ⟨y, hy⟩ : ∃ x, l[k + 1]? = some x := ⟨_, List.getElem?_eq_getElem (by omega)⟩
    obtain ⟨c, hcc⟩ : ∃ x, cs[k]? = some x := ⟨_, List.getElem?_eq_getElem (by omega)⟩
    have r1 : (l.map Leg.row)[k]? = some [I x.long, I x.limit] := by rw [List.getElem?_map, hx]; rfl
    have r2 : (l.map Leg.row)[k + 1]? = some [I y.long, I y.limit] := by rw [List.getElem?_map, hy]; rfl
    have r3 : (cs.map fun z => [I z])[k]? = some [I c] := by rw [List.getElem?_map, hcc]; rfl
    have r5 : (w.map fun z => [I z])[k + 1]? = some [I 0] := by rw [List.getElem?_map, hm.2 (k + 1) (by omega), if_neg (by omega)]; rfl
    have hfm := capL_mid hx hy hcc
    refine WA ?_
    refine ZZ ?_
    refine aw_regionT [(0, none), (1, none), (2, none), (3, none), (4, none), (5, none), (6, none), (7, none), (8, none), (9, none), (10, none), (11, none), (12, none), (13, none), (14, none), (15, none), (16, none), (17, some [])] hMixed (by kernel_rfl) ?_
    iterate 2 refine WX2 ?_
    refine ZT rfl (rd_addz (z := ((k + 1 : Nat) : Int)) rfl rfl rfl (by omega) (by omega)) ?_
    iterate 8 refine WX2 ?_
    refine ZT rfl (rd_addz (z := ((k + 1 : Nat) : Int)) rfl rfl rfl (by omega) (by omega)) ?_
    refine WQ ?_
    refine WA ?_
    refine wk_of [some 0] (fun _ => [(0, .c (legs_r v l)), (2, .c (I ch)), (7, .o 0 0 (l.length + 1) (l.length + 1)), (20, .c (ints_r w0 cs)), (21, .c (I (cs.map fun z => [I z]).length)), (22, .c (I (k + 1 : Nat)))]) (fun _ => _) (by decide) (ZNL hE) ZCF ZCH (fun _ => ?_)
    exact ⟨m - 1, by omega, k + 1, w.set (k + 1) (capL l cs (k + 1)), by omega, midC_next hm (by omega), rfl, by rw [hfm, List.map_set, Nat.zero_add]⟩
  refine ZZ ?_
  refine WA ?_
  have hlow := midC_low (ch := ch) hr hm (by omega)
  refine aw_loopw (fun m F H => ∃ (b : Bool) (w : List Int), m = sumN w + (if b then 1 else 0) ∧ Low l cs ch w ∧ (b = false → w = speedsS l cs ch) ∧ F = [(0, .c (legs_r v l)), (2, .c (I ch)), (7, .o 0 0 (l.length + 1) (l.length + 1)), (10, .c (B b))] ∧ H = [.arr 3 1 (l.length + 1) (w.map fun z => [I z])]) ?_ ?_
  · refine wk_of [some 0] (fun _ => [(0, .c (legs_r v l)), (2, .c (I ch)), (7, .o 0 0 (l.length + 1) (l.length + 1)), (10, .c (B true))]) (fun _ => _) (by decide) (ZNL hE) ZCF ZCH (fun _ => ?_)
    exact ⟨_, true, w, rfl, hlow, by simp, rfl, rfl⟩
  clear hlow hm hk hge
  rintro m F H ⟨b, w0', hm, hlow, hb, rfl, rfl⟩
  refine WA ?_
  refine aw_cond rfl (fun hbt => ?_) (fun hbf => ?_)
  · subst hbt
    refine WA ?_
    refine WA ?_
    refine aw_loopw (fun m F H => ∃ (k : Nat) (b : Bool) (w : List Int), m + k = l.length ∧ Low l cs ch w ∧ Rel l ch w0' k b w ∧ F = [(0, .c (legs_r v l)), (2, .c (I ch)), (7, .o 0 0 (l.length + 1) (l.length + 1)), (10, .c (B b)), (46, .c (legs_r v l)), (47, .c (I (l.map Leg.row).length)), (48, .c (I k))] ∧ H = [.arr 3 1 (l.length + 1) (w.map fun z => [I z])]) ?_ ?_
    · refine wk_of [some 0] (fun _ => [(0, .c (legs_r v l)), (2, .c (I ch)), (7, .o 0 0 (l.length + 1) (l.length + 1)), (10, .c (B false)), (46, .c (legs_r v l)), (47, .c (I (l.map Leg.row).length)), (48, .c (I (0 : Nat)))]) (fun _ => _) (by decide) (ZNL hE) ZCF ZCH (fun _ => ?_)
      exact ⟨l.length, 0, false, w0', by omega, hlow, Rel.zero l ch w0', rfl, rfl⟩
    rintro m2 F H ⟨k, b, w, hk, hlw, hrel, rfl, rfl⟩
    refine WA ?_
    refine aw_if rfl (fun hlt => ?_) (fun hge => ?_)
    · obtain ⟨x, hx⟩ : ∃ x, l[k]? = some x := ⟨_, List.getElem?_eq_getElem (by omega)⟩
      have hxg := hr.legs x (List.mem_of_getElem? hx)
      have hd := dis_b hc hxg
      have hdl := disL_of (ch := ch) hx
      obtain ⟨hx1, hx2, hx3, hx4⟩ := hxg
      have r1 : (l.map Leg.row)[k]? = some [I x.long, I x.limit] := by rw [List.getElem?_map, hx]; rfl
      have ga := hlw.get (j := k) (by omega)
      have gb := hlw.get (j := k + 1) (by omega)
      have ca := hlw.cap k (by omega)
      have cb := hlw.cap (k + 1) (by omega)
      have qa := (hr.cap k).2
      have qb := (hr.cap (k + 1)).2
      obtain ⟨a, ha⟩ : ∃ a, w.getD k 0 = a := ⟨_, rfl⟩
      obtain ⟨b', hb'⟩ : ∃ a, w.getD (k + 1) 0 = a := ⟨_, rfl⟩
      rw [ha] at ga ca; rw [hb'] at gb cb
      have sa := sq_b (a := a) (by omega) (by omega)
      have r4 : (w.map fun z => [I z])[k]? = some [I a] := by rw [List.getElem?_map, ga]; rfl
      have r5 : (w.map fun z => [I z])[k + 1]? = some [I b'] := by rw [List.getElem?_map, gb]; rfl
      refine WA ?_
      refine WA ?_
      refine ZZ ?_
      refine aw_regionT [(0, none), (1, none), (2, none), (3, none), (4, none), (5, none), (6, none), (7, none), (8, none), (9, none), (10, none), (11, some []), (12, none)] hMixed (by kernel_rfl) ?_
      refine WP ?_
      refine at_ef rfl rfl (ef_call0 false (fun _ => root2_a (a * a + 2 * ch * x.long) (by omega) (by omega)) rfl .fn rfl (by decide) (by kernel_rfl) rfl (fun _ => C0 rfl) (by simp)) ?_
      rintro _ _ ⟨_, _, _, ⟨rfl, rfl⟩, hF, hH⟩
      (try simp only [nsl, Nat.reduceAdd, Nat.reduceLT, Nat.reduceSub] at hF); (try simp only [nsl, Nat.reduceAdd, Nat.reduceLT, Nat.reduceSub] at hH); subst hF; subst hH
      refine ⟨ag_none, ?_⟩
      refine WQ ?_
      refine ZR ?_
      iterate 2 refine WX1 ?_
      refine ZA (rd_addz (z := ((k + 1 : Nat) : Int)) rfl rfl rfl (by omega) (by omega)) ?_
      refine WO ?_
      refine al_nil ?_
      refine aseq_n ?_
      refine aw_cut (fun F H => ∃ (b : Bool) (w : List Int), Low l cs ch w ∧ RelM l ch w0' k b w ∧ F = [(0, .c (legs_r v l)), (2, .c (I ch)), (7, .o 0 0 (l.length + 1) (l.length + 1)), (10, .c (B b)), (11, .c (I k)), (13, .c (I (2 * ch * x.long))), (46, .c (legs_r v l)), (47, .c (I (l.map Leg.row).length)), (48, .c (I k))] ∧ H = [.arr 3 1 (l.length + 1) (w.map fun z => [I z])]) ?_ ?_ wk_aw
      · refine aw_if rfl (fun hgt => ?_) (fun hle => ?_)
        · have hup := hlw.up (i := k) (by omega) (by omega) (by rw [ha, hb', hdl]; exact hgt)
          rw [ha, hdl] at hup
          refine ZR ?_
          iterate 2 refine WX1 ?_
          refine ZA (rd_addz (z := ((k + 1 : Nat) : Int)) rfl rfl rfl (by omega) (by omega)) ?_
          refine WE ?_
          refine wk_of [some 0] (fun _ => [(0, .c (legs_r v l)), (2, .c (I ch)), (7, .o 0 0 (l.length + 1) (l.length + 1)), (10, .c (B true)), (11, .c (I k)), (13, .c (I (2 * ch * x.long))), (46, .c (legs_r v l)), (47, .c (I (l.map Leg.row).length)), (48, .c (I k))]) (fun _ => _) (by decide) (ZNL hE) ZCF ZCH (fun _ => ?_)
          exact ⟨true, w.set (k + 1) (rt a (2 * ch * x.long)), hup.1, .inr ⟨rfl, by have := hrel.sum; omega⟩, rfl, by rw [List.map_set, Nat.zero_add]; rfl⟩
        · refine ZZ ?_
          refine wk_of [some 0] (fun _ => [(0, .c (legs_r v l)), (2, .c (I ch)), (7, .o 0 0 (l.length + 1) (l.length + 1)), (10, .c (B b)), (11, .c (I k)), (13, .c (I (2 * ch * x.long))), (46, .c (legs_r v l)), (47, .c (I (l.map Leg.row).length)), (48, .c (I k))]) (fun _ => _) (by decide) (ZNL hE) ZCF ZCH (fun _ => ?_)
          exact ⟨b, w, hlw, .inl ⟨hrel, by rw [ha, hb', hdl]; exact Int.not_lt.1 hle⟩, rfl, rfl⟩
      clear r4 r5 ga gb ca cb ha hb' hlw hrel sa
      rintro F H ⟨b2, w2, hlw, hrel, rfl, rfl⟩
      have ga := hlw.get (j := k) (by omega)
      have gb := hlw.get (j := k + 1) (by omega)
      have ca := hlw.cap k (by omega)
      have cb := hlw.cap (k + 1) (by omega)
      obtain ⟨a, ha⟩ : ∃ a, w2.getD k 0 = a := ⟨_, rfl⟩
      obtain ⟨b', hb'⟩ : ∃ a, w2.getD (k + 1) 0 = a := ⟨_, rfl⟩
      rw [ha] at ga ca; rw [hb'] at gb cb
      have sa := sq_b (a := b') (by omega) (by omega)
      have r4 : (w2.map fun z => [I z])[k]? = some [I a] := by rw [List.getElem?_map, ga]; rfl
      have r5 : (w2.map fun z => [I z])[k + 1]? = some [I b'] := by rw [List.getElem?_map, gb]; rfl
      refine ZZ ?_
      refine aw_regionT [(0, none), (1, none), (2, none), (3, none), (4, none), (5, none), (6, none), (7, none), (8, none), (9, none), (10, none), (11, none), (12, none), (13, some []), (14, none)] hMixed (by kernel_rfl) ?_
      iterate 2 refine WX2 ?_
      refine ZT rfl (rd_addz (z := ((k + 1 : Nat) : Int)) rfl rfl rfl (by omega) (by omega)) ?_
      iterate 4 refine WX2 ?_
      refine ZT rfl (rd_addz (z := ((k + 1 : Nat) : Int)) rfl rfl rfl (by omega) (by omega)) ?_
      refine WP ?_
      refine at_ef rfl rfl (ef_call0 false (fun _ => root2_a (b' * b' + 2 * ch * x.long) (by omega) (by omega)) rfl .fn rfl (by decide) (by kernel_rfl) rfl (fun _ => C0 rfl) (by simp)) ?_
      rintro _ _ ⟨_, _, _, ⟨rfl, rfl⟩, hF, hH⟩
      (try simp only [nsl, Nat.reduceAdd, Nat.reduceLT, Nat.reduceSub] at hF); (try simp only [nsl, Nat.reduceAdd, Nat.reduceLT, Nat.reduceSub] at hH); subst hF; subst hH
      refine ⟨ag_none, ?_⟩
      refine WQ ?_
      refine WA ?_
      refine aw_if rfl (fun hgt => ?_) (fun hle => ?_)
      · have hup := hlw.dn (i := k) (by omega) (by omega) (by rw [ha, hb', hdl]; exact hgt)
        rw [hb', hdl] at hup
        refine WA ?_
        refine WA ?_
        refine wk_of [some 0] (fun _ => [(0, .c (legs_r v l)), (2, .c (I ch)), (7, .o 0 0 (l.length + 1) (l.length + 1)), (10, .c (B true)), (46, .c (legs_r v l)), (47, .c (I (l.map Leg.row).length)), (48, .c (I (k + 1 : Nat)))]) (fun _ => _) (by decide) (ZNL hE) ZCF ZCH (fun _ => ?_)
        exact ⟨m2 - 1, by omega, k + 1, true, w2.set k (rt b' (2 * ch * x.long)), by omega, hup.1, .inr ⟨rfl, by have := hrel.sum; omega⟩, rfl, by rw [List.map_set, Nat.zero_add]; rfl⟩
      · refine ZZ ?_
        refine WA ?_
        refine wk_of [some 0] (fun _ => [(0, .c (legs_r v l)), (2, .c (I ch)), (7, .o 0 0 (l.length + 1) (l.length + 1)), (10, .c (B b2)), (46, .c (legs_r v l)), (47, .c (I (l.map Leg.row).length)), (48, .c (I (k + 1 : Nat)))]) (fun _ => _) (by decide) (ZNL hE) ZCF ZCH (fun _ => ?_)
        exact ⟨m2 - 1, by omega, k + 1, b2, w2, by omega, hlw, hrel.next (by rw [ha, hb', hdl]; exact Int.not_lt.1 hle), rfl, rfl⟩
    obtain rfl : k = l.length := by omega
    refine ZZ ?_
    refine wk_of [some 0] (fun _ => [(0, .c (legs_r v l)), (2, .c (I ch)), (7, .o 0 0 (l.length + 1) (l.length + 1)), (10, .c (B b))]) (fun _ => _) (by decide) (ZNL hE) ZCF ZCH (fun _ => ?_)
    refine ⟨sumN w + (if b then 1 else 0), ?_, b, w, rfl, hlw, fun hb => by subst hb; exact hrel.best hr hc.1 hlw, rfl, rfl⟩
    have := hrel.sum
    cases b
    · simp at hm ⊢; omega
    · rcases hrel with ⟨h, _⟩ | ⟨_, h⟩
      · cases h
      · simp at hm ⊢; omega
  obtain rfl := hb hbf
  refine ZZ ?_
  refine WA ?_
  exact aret_o [some 0] (fun _ => _) rfl rfl rfl rfl rfl (by decide) (ZNK rfl) ZCH (fun _ => ⟨rfl, rfl⟩)
end Go.Proofs.Ytpbedckdnoogpaa
