/- Pairs in order are one list, plain. -/
import Derived.Test.YtcdeonjdipcgpaaGreatDoorQbs
import Derived.Test.YtcdeonjdipcgpaaGreatDoorQbd
import Derived.Test.YtcdeonjdipcgpaaGreatDoorQat
import Derived.Shelf.Strconv.Itoa3
import Derived.Lib.LaidTab
import Derived.Test.YtcdeonjdipcgpaaGreatDoorProg
import Derived.Test.YtcdeonjdipcgpaaGreatDoorQbr
import Derived.Lib.ItoaLen
set_option linter.unusedSimpArgs false
set_option linter.unusedVariables false
-- NEWM
namespace Go.Proofs.YtcdeonjdipcgpaaGreatDoor
open Go Go.RowKit Go.Shelf
set_option maxRecDepth 100000
def itoaL_ren : Go.Shelf.Ren := ⟨fun | 171 => 59 | 243 => 109 | 246 => 166 | 283 => 231 | 284 => 232 | 285 => 233 | 286 => 234 | 129 => 210 | 317 => 292 | 318 => 293 | 319 => 294 | 320 => 295 | 337 => 329 | 338 => 330 | n => n, fun | 3 => 3 | 9 => 9 | 2 => 2 | 4 => 4 | 171 => 298 | 0 => 0 | 53 => 265 | 37 => 164 | 5 => 5 | 173 => 300 | 212 => 365 | 51 => 262 | 20 => 20 | 213 => 366 | 46 => 210 | 232 => 417 | 233 => 418 | n => n, fun | 17 => 3 | 18 => 6 | 19 => 7 | n => n⟩
theorem itoaL : Go.Proofs.LaysM.n171 Tryz.prog itoaL_ren := {
 mixed := by kernel_rfl
 f129 := Tryz.func210.trans (congrArg some (by kernel_rfl))
 f171 := Tryz.func59.trans (congrArg some (by kernel_rfl))
 f243 := Tryz.func109.trans (congrArg some (by kernel_rfl))
 f246 := Tryz.func166.trans (congrArg some (by kernel_rfl))
 f283 := Tryz.func231.trans (congrArg some (by kernel_rfl))
 f284 := Tryz.func232.trans (congrArg some (by kernel_rfl))
 f285 := Tryz.func233.trans (congrArg some (by kernel_rfl))
 f286 := Tryz.func234.trans (congrArg some (by kernel_rfl))
 f317 := Tryz.func292.trans (congrArg some (by kernel_rfl))
 f318 := Tryz.func293.trans (congrArg some (by kernel_rfl))
 f319 := Tryz.func294.trans (congrArg some (by kernel_rfl))
 f320 := Tryz.func295.trans (congrArg some (by kernel_rfl))
 f337 := Tryz.func329.trans (congrArg some (by kernel_rfl))
 f338 := Tryz.func330.trans (congrArg some (by kernel_rfl))
 t0 := Tryz.underlying0
 a0 := Tryz.isAgg0
 z0 := Tryz.sizeOf0
 v0 := Tryz.zeroValue0
 t2 := Tryz.underlying2
 a2 := Tryz.isAgg2
 z2 := Tryz.sizeOf2
 v2 := Tryz.zeroValue2
 t3 := Tryz.underlying3
 a3 := Tryz.isAgg3
 z3 := Tryz.sizeOf3
 v3 := Tryz.zeroValue3
 t4 := Tryz.underlying4
 a4 := Tryz.isAgg4
 z4 := Tryz.sizeOf4
 v4 := Tryz.zeroValue4
 t5 := Tryz.underlying5
 a5 := Tryz.isAgg5
 z5 := Tryz.sizeOf5
 v5 := Tryz.zeroValue5
 t9 := Tryz.underlying9
 a9 := Tryz.isAgg9
 z9 := Tryz.sizeOf9
 v9 := Tryz.zeroValue9
 t20 := Tryz.underlying20
 a20 := Tryz.isAgg20
 z20 := Tryz.sizeOf20
 v20 := Tryz.zeroValue20
 t37 := Tryz.underlying164
 a37 := Tryz.isAgg164
 z37 := Tryz.sizeOf164
 v37 := Tryz.zeroValue164
 t46 := Tryz.underlying210
 a46 := Tryz.isAgg210
 z46 := Tryz.sizeOf210
 v46 := Tryz.zeroValue210
 t51 := Tryz.underlying262
 a51 := Tryz.isAgg262
 z51 := Tryz.sizeOf262
 v51 := Tryz.zeroValue262
 t53 := Tryz.underlying265
 a53 := Tryz.isAgg265
 z53 := Tryz.sizeOf265
 v53 := Tryz.zeroValue265
 t171 := Tryz.underlying298
 a171 := Tryz.isAgg298
 z171 := Tryz.sizeOf298
 v171 := Tryz.zeroValue298
 t173 := Tryz.underlying300
 a173 := Tryz.isAgg300
 z173 := Tryz.sizeOf300
 v173 := Tryz.zeroValue300
 t212 := Tryz.underlying365
 a212 := Tryz.isAgg365
 z212 := Tryz.sizeOf365
 v212 := Tryz.zeroValue365
 t213 := Tryz.underlying366
 a213 := Tryz.isAgg366
 z213 := Tryz.sizeOf366
 t232 := Tryz.underlying417
 a232 := Tryz.isAgg417
 z232 := Tryz.sizeOf417
 v232 := Tryz.zeroValue417
 t233 := Tryz.underlying418
 a233 := Tryz.isAgg418
 z233 := Tryz.sizeOf418
 v233 := Tryz.zeroValue418
 g17 := by kernel_rfl
 g18 := by kernel_rfl
 g19 := by kernel_rfl
 i0 := by kernel_rfl
 i2 := by kernel_rfl
 i3 := by kernel_rfl
 i4 := by kernel_rfl
 i5 := by kernel_rfl
 i9 := by kernel_rfl
 i20 := by kernel_rfl
 i37 := by kernel_rfl
 i46 := by kernel_rfl
 i51 := by kernel_rfl
 i53 := by kernel_rfl
 i171 := by kernel_rfl
 i173 := by kernel_rfl
 i212 := by kernel_rfl
 i232 := by kernel_rfl
 i233 := by kernel_rfl
 m17 := by kernel_rfl
 m18 := by kernel_rfl
 m19 := by kernel_rfl }
theorem tabIs_stp {P : Program} {w w' : World} {nm : String} {k : IntKind} {zs : List Int} (h : Stp w w' fun _ => False) (hx : Lib.TabIs P w nm k zs) : Lib.TabIs P w' nm k zs := by
 unfold Lib.TabIs World.var? at *
 cases hg : P.globalNamed nm with
 | none => rw [hg] at hx; cases hx
 | some g =>
  rw [hg] at hx
  simp only [Option.bind_some] at hx ⊢
  have hlt : g < w.heap.size := by
   rcases Nat.lt_or_ge g w.heap.size with h2 | h2
   ·exact h2
   ·rw [Array.getElem?_eq_none h2] at hx; cases hx
  rw [h.block g hlt fun h => h]
  exact hx
def TabX (w : World) : Prop := Lib.TabIs Tryz.prog w "internal/strconv.uint64pow10" .u64 Lib.pow10Tab
theorem tabX_stp (w w' : World) (h : Stp w w' fun _ => False) (hx : TabX w) : TabX w' := tabIs_stp h hx
theorem acallsW_grow {P : Program} {X : World → Prop} {f : FuncId} {args : List AV} {u : CV} (hu : ∃ v, u = .s v) (h : ∀ ρ w, X w → Calls P f (args.map (AV.den ρ [])).toArray w fun e w' => e = .returned u.den ∧ ∃ k os, w' = Sort.grow (w.drewN k) os) : ACallsW X false P f args [] fun u' H => u' = .c u ∧ H = [] := fun S ρ w hx hR hW => by
 refine (h ρ w hx).mono ?_
 rintro e w' ⟨rfl, k, os, rfl⟩
 have hsz : w.heap.size ≤ (Sort.grow (w.drewN k) os).heap.size := by simp [Sort.grow, World.drewN]
 obtain ⟨v, rfl⟩ := hu
 refine ⟨.c (.s v), [], ρ, S, rfl, ⟨rfl, rfl⟩, .c (.s v), ⟨hR.len, hR.nd, hR.ap, fun i B h => Nat.lt_of_lt_of_le (hR.lt i B h) hsz, fun b hb => Nat.lt_of_lt_of_le (hR.sS b hb) hsz, fun i o h => by simp at h, PL.none fun _ _ _ => zz3⟩, ⟨rfl, rfl, rfl, hsz, fun b hb _ => ?_, ?_⟩, fun b hb => .inl hb, fun i B hi => ?_, fun i k' B hi => absurd hi zz3, fun i hi => by simp at hi, fun h => by cases h⟩
 ·simp only [Sort.grow, World.drewN]
  rw [Array.getElem?_append_left hb]
 ·show w.drawn ≤ w.drawn + k
  exact Nat.le_add_right _ _
 ·have hr0 : ρ = [] := List.eq_nil_of_length_eq_zero hR.len
  subst hr0
  cases hi
theorem itoa_v (n : Int) (h0 : -9223372036854775808 ≤ n) (h1 : n ≤ 9223372036854775807) : ACallsW TabX false Tryz.prog 59 [.c (I n)] [] fun u H => u = .c (T (Lib.itoa n)) ∧ H = [] :=
 acallsW_grow ⟨_, rfl⟩ fun _ w hx => Any.strconv_Itoa itoaL n h0 h1 w hx
end Go.Proofs.YtcdeonjdipcgpaaGreatDoor
-- NEWM
namespace Go.Proofs.YtcdeonjdipcgpaaGreatDoor
open Go Go.RowKit
set_option maxRecDepth 100000
theorem mset_mem {α β : Type} [DecidableEq α] {ck : Nat} {a : α} {b : β} : ∀ {l : List (Nat × α × β)} {e : Nat × α × β}, e ∈ mset ck a b l → e ∈ l ∨ e.2.2 = b
 | [], e, h => by
  simp only [mset, List.mem_singleton] at h
  subst h
  exact .inr rfl
 | x :: l, e, h => by
  simp only [mset] at h
  split at h
  ·rcases List.mem_cons.1 h with rfl | h
   ·exact .inr rfl
   ·exact .inl (List.mem_cons_of_mem _ h)
  ·rcases List.mem_cons.1 h with rfl | h
   ·exact .inl (by simp)
   ·rcases mset_mem h with h | h
    ·exact .inl (List.mem_cons_of_mem _ h)
    ·exact .inr h
theorem mset_len {α β : Type} [DecidableEq α] {ck : Nat} {a : α} {b : β} : ∀ (l : List (Nat × α × β)), (mset ck a b l).length ≤ l.length + 1
 | [] => by simp [mset]
 | x :: l => by
  simp only [mset]
  split
  ·simp
  ·have := mset_len (ck := ck) (a := a) (b := b) l
   simp only [List.length_cons]
   omega
theorem key_len {s : List UInt8} (h : keyB s = true) : s.length ≤ 40 := by
 cases s with
 | nil => simp
 | cons b r =>
  rw [za3] at h
  simp only [Bool.and_eq_true, decide_eq_true_eq] at h
  exact h.1.1
theorem ntS_sp {b : Bk} {x : Nt} {k : Nat} (hx : ntF x = 0) (h1 : b.sp.length ≤ k) (h2 : ∀ e ∈ b.sp, e.2.2.length ≤ 40) : (ntS b x).sp.length ≤ k + 1 ∧ ∀ e ∈ (ntS b x).sp, e.2.2.length ≤ 40 := by
 have h5 := (ntF_ok hx).2.2.1
 unfold ntS
 by_cases c1 : x.kd = 1
 ·rw [if_pos c1]; exact ⟨by simp only; omega, h2⟩
 rw [if_neg c1]
 by_cases c2 : x.kd = 2
 ·rw [if_pos c2]; exact ⟨by simp only; omega, h2⟩
 rw [if_neg c2]
 by_cases c3 : x.kd = 3
 ·rw [if_pos c3]; exact ⟨by simp only; omega, h2⟩
 rw [if_neg c3]
 by_cases c4 : x.kd = 4
 ·rw [if_pos c4]; exact ⟨by simp only; omega, h2⟩
 rw [if_neg c4]
 by_cases c5 : x.kd = 5
 ·rw [if_pos c5]
  refine ⟨?_, fun e he => ?_⟩
  ·have := mset_len (ck := b.spk) (a := x.pr) (b := x.sp) b.sp
   simp only
   omega
  ·rcases mset_mem he with he | he
   ·exact h2 e he
   ·rw [he]; exact key_len (h5 c5).1
 rw [if_neg c5]
 by_cases c6 : x.kd = 6
 ·rw [if_pos c6]; exact ⟨by simp only; omega, h2⟩
 rw [if_neg c6]
 exact ⟨by omega, h2⟩
theorem bkK_sp {l : List Nt} (hl : ∀ x ∈ l, ntF x = 0) (ix : List Int) : ∀ k, (bkK l ix k).1.sp.length ≤ k ∧ ∀ e ∈ (bkK l ix k).1.sp, e.2.2.length ≤ 40
 | 0 => by simp [bkK, bk0]
 | k + 1 => by
  obtain ⟨h1, h2⟩ := bkK_sp hl ix k
  rw [bkK]
  split
  ·split
   ·rename_i x hx
    unfold bkStep
    split
    ·exact ⟨by simp only; omega, h2⟩
    ·exact ntS_sp (hl x (List.mem_of_getElem? hx)) h1 h2
   ·exact ⟨by omega, h2⟩
  ·exact ⟨by omega, h2⟩
theorem bksF_sp {l : List Nt} {at_ : Int} (hl : l.length ≤ 2000) (hs : ∀ x ∈ l, ntF x = 0) : (bksF l (cntP at_ l)).1.sp.length ≤ 2000 ∧ ∀ e ∈ (bksF l (cntP at_ l)).1.sp, e.2.2.length ≤ 40 := by
 obtain ⟨h1, h2⟩ := bkK_sp hs (cntP at_ l) (cntP at_ l).length
 have h3 := zf3 at_ l l.length (Nat.le_refl _)
 have h4 : (cntP at_ l).length ≤ 2000 := by unfold cntP; rw [List.length_reverse]; omega
 exact ⟨by unfold bksF; omega, h2⟩
def flPr (lf : List (Nat × List UInt8 × Int)) (e : Nat × List UInt8 × List UInt8) : Pr := (e.2.1, e.2.2 ++ [32] ++ Lib.itoa ((mget lf e.2.2).getD 0))
set_option maxHeartbeats 2000000 in
theorem filamentD_v (v : Value) (l : List Nt) (at_ : Int) (hc : chkN l = 0) : ACallsW TabX false Tryz.prog 24 [.c (.r v (noRs l)), .c (I at_)] [] fun u H => ∃ (l2 : List Pr) (c : Nat), (l2.Perm ((bksF l (cntP at_ l)).1.sp.map (flPr (bksF l (cntP at_ l)).1.lf)) ∧ l2.Pairwise fun a b => ¬ cmpB b.1 a.1 < 0) ∧ l2.length ≤ 2000 ∧ l2.length ≤ c ∧ u = .o 0 0 l2.length c ∧ H = [.arr 56 2 c (prRs l2)] := by
 have hspl := bksF_sp (at_ := at_) (zH hc).1 (zH hc).2
 refine zp3 tabX_stp false (N := 39) Tryz.func24 rfl rfl (by simp) fun E hE hP hX => ?_
 refine WA ?_
 refine WR ?_
 refine zf rfl (zc false (fun _ => told_v v l at_ (zH hc).1 (zH hc).2 (zO1 hc).symm (zA3 hc)) rfl .fn rfl (by decide) (by kernel_rfl) rfl (fun _ => C0 rfl) (by simp)) ?_
 rintro _ _ ⟨_, _, _, ⟨X, bl, sp, spk, lf, lfk, us, usk, R1, R2, c1, c2, hbf, hB, hbl, h1l, h2l, hc1, hc2, rfl, rfl⟩, hF, hH⟩
 (refine NST hF hH ?_; clear hF hH; rintro rfl rfl)
 refine WE ?_
 rw [hbf] at hspl ⊢
 simp only at hspl ⊢
 have hok := hB.sp
 simp only at hok
 refine WA ?_
 refine ZR ?_
 iterate 4 refine WX1 ?_
 refine zf rfl (zh2 (ke := encSt) (ve := encSt) (l := sp) (ck := spk) rfl rfl (by decide) Tryz.underlying99 rfl rfl) ?_
 rintro _ _ ⟨rfl, rfl⟩
 refine WE ?_
 refine zC (fun m F H => ∃ (TS : List (Nat × List UInt8 × List UInt8)) (out : List Pr) (co : Nat), unsG sp (TS.map (·.1)) = m ∧ m + TS.length ≤ sp.length ∧ (TS.map (·.1)).Nodup ∧ (∀ e ∈ TS, e ∈ sp) ∧ out = TS.map (flPr lf) ∧ out.length ≤ co ∧ F = [(5, .p 0 0 0), (6, .o 10 0 out.length co), (16, .p 9 0 0)] ∧ H = [.box [.mp 1, .mp 2, .mp 3, .mp 4, .o 5 0 (R1).length c1, .o 6 0 (R2).length c2], mSP (jlF 0 (jxs X) bl) (X).length, mSS sp spk, mSI lf lfk, mSI us usk, .arr 3 1 c1 (nR (R1)), .arr 32 1 c2 (nR (R2)), .pool (plF jbQ X bl), .pool (X.map jbA), .itr 2 spk (TS.map (·.1)) spk, .arr 56 2 co (prRs out)]) ?_ ?_
 ·refine zn [some 0, some 1, some 2, some 3, some 4, some 5, some 6, some 7, some 8, some 9, none] (fun _ => [(5, .p 0 0 0), (6, .o 10 0 0 0), (16, .p 9 0 0)]) (fun _ => [.box [.mp 1, .mp 2, .mp 3, .mp 4, .o 5 0 (R1).length c1, .o 6 0 (R2).length c2], mSP (jlF 0 (jxs X) bl) (X).length, mSS sp spk, mSI lf lfk, mSI us usk, .arr 3 1 c1 (nR (R1)), .arr 32 1 c2 (nR (R2)), .pool (plF jbQ X bl), .pool (X.map jbA), .itr 2 spk [] spk, .arr 56 2 0 []]) (by decide) (ZNL hE) ZCF ZCH (fun _ => ?_)
  exact ⟨_, [], [], 0, rfl, unsG_le sp [], List.nodup_nil, fun e h => (by cases h), rfl, Nat.le_refl _, rfl, rfl⟩
 rintro m F H ⟨TS, out, co, hm, hml, hnd, hsl, hout, hco, rfl, rfl⟩
 have hol : out.length ≤ 2000 := by rw [hout, List.length_map]; omega
 have e1 : (prRs out).length = out.length := by simp
 refine ZR ?_
 refine zf rfl (zL2 (ke := encSt) (ve := encSt) (l := sp) rfl rfl (by decide) rfl rfl rfl hok.hb (Nat.le_refl _)) ?_
 rintro _ _ (⟨⟨eb, ek, es⟩, he, hne, rfl, rfl⟩ | ⟨hall, rfl, rfl⟩)
 all_goals (refine WE ?_)
 ·refine zb rfl ?_
  have hlt : unsG sp (TS.map (·.1) ++ [eb]) < unsG sp (TS.map (·.1)) := zH2 he hne
  have hel := hspl.2 _ he
  simp only at hel
  have hnd2 : ((TS ++ [(eb, ek, es)]).map (·.1)).Nodup := by
   rw [List.map_append]
   exact List.nodup_append.2 ⟨hnd, by simp, fun a ha b hb h => by simp at hb; subst hb; subst h; exact hne ha⟩
  have hsl2 : ∀ e ∈ TS ++ [(eb, ek, es)], e ∈ sp := fun e h => by
   rcases List.mem_append.1 h with h | h
   ·exact hsl e h
   ·rw [List.mem_singleton] at h; subst h; exact he
  obtain ⟨lv, hlv⟩ : ∃ q, (mget lf es).getD 0 = q := ⟨_, rfl⟩
  have hlb := hB.l es
  simp only at hlb
  rw [hlv] at hlb
  have hil := Lib.itoa_length_le lv (by omega) (by omega)
  refine ZR ?_
  refine ZA (zg2 (ke := encSt) (ve := encSt) (e := (eb, ek, es)) rfl rfl rfl rfl he hok.nb) ?_
  refine WE ?_
  refine ZR ?_
  iterate 3 refine WX1 ?_
  refine ZA (rd_adds (a := es) (b := [32]) rfl Tryz.underlying9 rfl rfl (by simp; omega)) ?_
  iterate 5 refine WX1 ?_
  refine ZA (zX (k := es) (l := lf) hlv rfl rfl rfl rfl) ?_
  refine zf rfl (zQ3 TabX (hX _ _) false (fun _ => itoa_v lv (by omega) (by omega)) rfl .fn rfl (by decide) (by kernel_rfl) rfl (fun _ => C0 rfl) (by simp)) ?_
  rintro _ _ ⟨_, _, _, ⟨rfl, rfl⟩, hF, hH⟩
  (refine NST hF hH ?_; clear hF hH; rintro rfl rfl)
  refine ZA (rd_adds (a := es ++ [32]) (b := Lib.itoa lv) rfl Tryz.underlying9 rfl rfl (by simp; omega)) ?_
  refine WO ?_
  refine zf rfl (Zapp (news := [[T ek, T (es ++ [32] ++ Lib.itoa lv)]]) (j := 1) (hE := KA (t := 35) rfl) (hsrc := .own rfl rfl rfl) (hj := rfl) (hle := by omega)) ?_
  rintro F1 H1 ⟨_, cc, hcc, hF, hH⟩
  (refine NSU hF hH ?_; clear hF hH; rintro rfl rfl)
  refine WE ?_
  have ho2 : out ++ [(ek, es ++ [32] ++ Lib.itoa lv)] = (TS ++ [(eb, ek, es)]).map (flPr lf) := by rw [List.map_append, hout]; simp [flPr, hlv]
  refine zn [some 0, some 1, some 2, some 3, some 4, some 5, some 6, some 7, some 8, some 9, some 10] (fun _ => [(5, .p 0 0 0), (6, .o 10 0 (out ++ [(ek, es ++ [32] ++ Lib.itoa lv)]).length cc), (16, .p 9 0 0)]) (fun _ => [.box [.mp 1, .mp 2, .mp 3, .mp 4, .o 5 0 (R1).length c1, .o 6 0 (R2).length c2], mSP (jlF 0 (jxs X) bl) (X).length, mSS sp spk, mSI lf lfk, mSI us usk, .arr 3 1 c1 (nR (R1)), .arr 32 1 c2 (nR (R2)), .pool (plF jbQ X bl), .pool (X.map jbA), .itr 2 spk ((TS ++ [(eb, ek, es)]).map (·.1)) spk, .arr 56 2 cc (prRs (out ++ [(ek, es ++ [32] ++ Lib.itoa lv)]))]) (by decide) (ZNL hE) (by simp only [prRs, prR, List.map_append, List.map_cons, List.map_nil, List.length_append, List.length_singleton, List.length_map]; exact ZCF) (by simp only [prRs, prR, List.map_append, List.map_cons, List.map_nil, List.length_append, List.length_singleton, List.length_map]; exact ZCH) (fun _ => ?_)
  exact ⟨_, by rw [← hm]; exact hlt, TS ++ [(eb, ek, es)], _, cc, by rw [List.map_append]; rfl, by rw [List.length_append, List.length_singleton]; omega, hnd2, hsl2, ho2, by simp at hcc ⊢; omega, rfl, rfl⟩
 ·refine za rfl ?_
  have hp : out.Perm (sp.map (flPr lf)) := by
   rw [hout]
   exact (zl4 hok.nb rfl hnd hsl hall).map _
  refine ZZ ?_
  refine WR ?_
  refine zf rfl (zW [10] (fun _ => [.arr 56 2 co (prRs out)]) false (fun _ => sorted_v out co (by omega)) rfl .fn rfl (by decide) (by kernel_rfl) rfl ZCH (by decide) ZCH (by simp)) ?_
  rintro F1 H1 ⟨_, _, _, _, ⟨l2, hl2, rfl, rfl⟩, hF, hH⟩
  rw [zF] at hF; (refine NSU hF hH ?_; clear hF hH; rintro rfl rfl)
  refine WE ?_
  have hle : l2.length = out.length := hl2.1.length_eq
  exact aret_o (k := out.length) (k' := l2.length) [some 10] (fun _ => [.arr 56 2 co (prRs l2)]) rfl rfl rfl hle.symm (b' := 0) rfl (by decide) (ZNK rfl) ZCH (fun _ => ⟨l2, co, ⟨hl2.1.trans hp, hl2.2⟩, by omega, by omega, rfl, rfl⟩)
end Go.Proofs.YtcdeonjdipcgpaaGreatDoor
-- NEWM
namespace Go.Proofs.YtcdeonjdipcgpaaGreatDoor
open Go Go.RowKit
set_option maxRecDepth 100000
abbrev kR (l : List (List UInt8)) : List (List CV) := l.map fun s => [T s]
def srtK (l : List (Nat × List UInt8 × List UInt8)) : List (List UInt8) := (l.map (·.2.1)).mergeSort fun x y => decide (x ≤ y)
theorem zi3 (l : List (Nat × List UInt8 × List UInt8)) : (srtK l).length = l.length := by
 unfold srtK
 rw [List.length_mergeSort, List.length_map]
def valP (l : List (Nat × List UInt8 × List UInt8)) (k : List UInt8) : Pr := (k, (mget l k).getD [])
def srtP (l : List (Nat × List UInt8 × List UInt8)) : List Pr := (srtK l).map (valP l)
theorem keys_v (l : List (Nat × List UInt8 × List UInt8)) (ck : Nat) : ACallsX true Tryz.prog 108 [.mp 0] [mSS l ck] fun u H => u = .f (.func 165) [.p 1 0 0] ∧ H = [mSS l ck, .box [.mp 0]] := by
 refine zY true (N := 4) Tryz.func108 rfl rfl (by simp) fun E hE hP => ?_
 refine WA ?_
 refine WA ?_
 exact zc1 (us := [.f (.func 165) [.p 1 0 0]]) [some 0, some 1] (fun _ => .f (.func 165) [.p 1 0 0]) (fun _ => [mSS l ck, .box [.mp 0]]) (.tmp rfl .nil) (by decide) (ZNK rfl) (fun _ => .fL (.cons (.p rfl) .nil)) ZCH (fun _ => ⟨rfl, rfl⟩)
def SortedKeysOk : Prop := ∀ (l : List (Nat × List UInt8 × List UInt8)) (ck : Nat), MapOk l ck → l.length ≤ 1000000 → (∀ e ∈ l, e.2.1.length ≤ 1000000) → ACallsX true Tryz.prog 107 [.f (.func 165) [.p 1 0 0]] [mSS l ck, .box [.mp 0]] fun u H => ∃ c, l.length ≤ c ∧ u = .o 2 0 l.length c ∧ H = [mSS l ck, .box [.mp 0], .arr 9 1 c (kR (srtK l))]
set_option maxHeartbeats 1000000 in
theorem pairs_v (hSK : SortedKeysOk) (l : List (Nat × List UInt8 × List UInt8)) (ck : Nat) (hok : MapOk l ck) (hl : l.length ≤ 1000000) (hk : ∀ e ∈ l, e.2.1.length ≤ 1000000) : ACallsX true Tryz.prog 57 [.mp 0] [mSS l ck] fun u H => ∃ c cs, l.length ≤ c ∧ u = .o 3 0 l.length c ∧ H = [mSS l ck, .box [.mp 0], .arr 9 1 cs (kR (srtK l)), .arr 56 2 c (prRs (srtP l))] := by
 refine zY true (N := 24) Tryz.func57 rfl rfl (by simp) fun E hE hP => ?_
 have hsl := zi3 l
 have e0 : (kR (srtK l)).length = l.length := by simp [hsl]
 refine WA ?_
 refine WA ?_
 refine WR ?_
 refine zf rfl (zW [0] (fun _ => [mSS l ck]) false (fun _ => keys_v l ck) rfl .fn rfl (by decide) (by kernel_rfl) rfl ZCH (by decide) ZCH (by simp)) ?_
 rintro F1 H1 ⟨_, _, _, _, ⟨rfl, rfl⟩, hF, hH⟩
 rw [zF] at hF; (refine NSU hF hH ?_; clear hF hH; rintro rfl rfl)
 refine zf rfl (zW [0, 1] (fun _ => [mSS l ck, .box [.mp 0]]) false (fun _ => hSK l ck hok hl hk) rfl .fn rfl (by decide) (by kernel_rfl) rfl (fun _ => .cons (.fL (.cons (.p rfl) .nil)) .nil) (by decide) ZCH (by simp)) ?_
 rintro F1 H1 ⟨_, _, _, _, ⟨c, hc, rfl, rfl⟩, hF, hH⟩
 rw [zF] at hF; (refine NSU hF hH ?_; clear hF hH; rintro rfl rfl)
 refine WE ?_
 refine zC (fun m F H => ∃ (k co : Nat), m + k = l.length ∧ k ≤ co ∧ F = [(0, .mp 0), (3, .o 3 0 k co), (8, .o 2 0 l.length c), (9, .c (I l.length)), (10, .c (I k))] ∧ H = [mSS l ck, .box [.mp 0], .arr 9 1 c (kR (srtK l)), .arr 56 2 co (prRs ((srtP l).take k))]) ?_ ?_
 ·refine zn [some 0, some 1, some 2, none] (fun _ => [(0, .mp 0), (3, .o 3 0 0 0), (8, .o 2 0 l.length c), (9, .c (I l.length)), (10, .c (I (0 : Nat)))]) (fun _ => [mSS l ck, .box [.mp 0], .arr 9 1 c (kR (srtK l)), .arr 56 2 0 []]) (by decide) (by rw [hE]; exact (ZNK rfl)) ZCF ZCH (fun _ => ?_)
  exact ⟨_, 0, 0, Nat.add_zero _, Nat.le_refl _, rfl, rfl⟩
 rintro m F H ⟨k, co, hkm, hco, rfl, rfl⟩
 have e1 : (prRs ((srtP l).take k)).length = k := by simp [srtP, hsl]; omega
 refine WA ?_
 refine zu rfl (fun hlt => ?_) (fun hge => ?_)
 ·obtain ⟨s, hs⟩ : ∃ z, (srtK l)[k]? = some z := ⟨_, List.getElem?_eq_getElem (by omega)⟩
  have hrow : (kR (srtK l))[k]? = some [T s] := by rw [List.getElem?_map, hs]; rfl
  obtain ⟨q, hq⟩ : ∃ q, (mget l s).getD [] = q := ⟨_, rfl⟩
  have htk : (srtP l).take (k + 1) = (srtP l).take k ++ [(s, q)] := by
   rw [List.take_add_one, srtP, List.getElem?_map, hs]
   simp [valP, hq]
  refine WA ?_
  refine ZR ?_
  iterate 4 refine WX1 ?_
  refine ZA (rd_lkSS (k := s) (l := l) hq rfl rfl rfl rfl) ?_
  refine WO ?_
  refine zf rfl (Zapp (news := [[T s, T q]]) (j := 1) (hE := KA (t := 35) rfl) (hsrc := .own rfl rfl rfl) (hj := rfl) (hle := by omega) (hn := e1.symm)) ?_
  rintro F1 H1 ⟨_, cc, hcc, hF, hH⟩
  (refine NSU hF hH ?_; clear hF hH; rintro rfl rfl)
  refine WE ?_
  refine WA ?_
  refine zn [some 0, some 1, some 2, some 3] (fun _ => [(0, .mp 0), (3, .o 3 0 (k + 1) cc), (8, .o 2 0 l.length c), (9, .c (I l.length)), (10, .c (I (k + 1 : Nat)))]) (fun _ => [mSS l ck, .box [.mp 0], .arr 9 1 c (kR (srtK l)), .arr 56 2 cc (prRs ((srtP l).take (k + 1)))]) (by decide) (by rw [hE]; exact (ZNK rfl)) ZCF (by rw [htk]; simp only [prRs, prR, List.map_append, List.map_cons, List.map_nil]; exact ZCH) (fun _ => ?_)
  exact ⟨m - 1, by omega, k + 1, cc, by omega, by omega, rfl, rfl⟩
 obtain rfl : k = l.length := by omega
 have htk : (srtP l).take l.length = srtP l := by rw [List.take_of_length_le]; simp [srtP, hsl]
 rw [htk]
 refine ZZ ?_
 refine WA ?_
 exact aret_o (k := l.length) [some 0, some 1, some 2, some 3] (fun _ => [mSS l ck, .box [.mp 0], .arr 9 1 c (kR (srtK l)), .arr 56 2 co (prRs (srtP l))]) rfl rfl rfl rfl (b' := 3) rfl (by decide) (ZNK rfl) ZCH (fun _ => ⟨co, c, hco, rfl, rfl⟩)
end Go.Proofs.YtcdeonjdipcgpaaGreatDoor
-- NEWM
namespace Go.Proofs.YtcdeonjdipcgpaaGreatDoor
open Go Go.RowKit
set_option maxRecDepth 100000
theorem mset_memk {α β : Type} [DecidableEq α] {ck : Nat} {a : α} {b : β} : ∀ {l : List (Nat × α × β)} {e : Nat × α × β}, e ∈ mset ck a b l → (∃ f ∈ l, e.2.1 = f.2.1) ∨ e.2.1 = a
 | [], e, h => by
  simp only [mset, List.mem_singleton] at h
  subst h
  exact .inr rfl
 | x :: l, e, h => by
  simp only [mset] at h
  split at h
  ·rename_i hx
   rcases List.mem_cons.1 h with rfl | h
   ·exact .inr (by simp)
   ·exact .inl ⟨e, List.mem_cons_of_mem _ h, rfl⟩
  ·rcases List.mem_cons.1 h with rfl | h
   ·exact .inl ⟨_, List.mem_cons_self, rfl⟩
   ·rcases mset_memk h with ⟨f, hf, h⟩ | h
    ·exact .inl ⟨f, List.mem_cons_of_mem _ hf, h⟩
    ·exact .inr h
structure NmB (b : Bk) : Prop where
 js : ∀ j ∈ b.js, j.pr.length ≤ 40 ∧ j.nm.length ≤ 40
 sp : ∀ e ∈ b.sp, e.2.1.length ≤ 40
theorem ntF_pr {x : Nt} (h : ntF x = 0) : (x.kd ≠ 7 → keyB x.pr = true) ∧ (x.kd = 1 → keyB x.jb = true) := by
 unfold ntF at h
 split at h
 ·cases h
 split at h
 ·cases h
 split at h
 ·cases h
 split at h
 ·cases h
 rename_i h4
 clear h
 simp only [not_or, not_and, Bool.not_eq_false] at h4
 exact ⟨fun hk => h4.1 (by simp [uP, hk]), fun hk => h4.2.1 (by simp [uJ, hk])⟩
theorem mem_modify {α : Type} {f : α → α} {l : List α} {k : Nat} {x : α} (h : x ∈ l.modify k f) : ∃ y ∈ l, x = y ∨ x = f y := by
 obtain ⟨i, hi⟩ := List.mem_iff_getElem?.1 h
 rw [List.getElem?_modify] at hi
 cases hy : l[i]? with
 | none => rw [hy] at hi; simp at hi
 | some y =>
  rw [hy] at hi
  refine ⟨y, List.mem_of_getElem? hy, ?_⟩
  by_cases hk : k = i
  ·simp [hk] at hi
   exact .inr hi.symm
  ·simp [hk] at hi
   exact .inl hi.symm
theorem layJ_nm {js : List Jb} {q : List UInt8} {t : Int} (h : ∀ j ∈ js, j.pr.length ≤ 40 ∧ j.nm.length ≤ 40) : ∀ j ∈ layJ js q t, j.pr.length ≤ 40 ∧ j.nm.length ≤ 40 := fun j hj => by
 unfold layJ at hj
 split at hj
 ·obtain ⟨y, hy, rfl | rfl⟩ := mem_modify hj
  ·exact h _ hy
  ·exact h y hy
 ·exact h j hj
theorem stopJ_nm {js : List Jb} {q : List UInt8} {s t : Int} (h : ∀ j ∈ js, j.pr.length ≤ 40 ∧ j.nm.length ≤ 40) : ∀ j ∈ stopJ js q s t, j.pr.length ≤ 40 ∧ j.nm.length ≤ 40 := fun j hj => by
 unfold stopJ at hj
 split at hj
 ·obtain ⟨y, hy, rfl | rfl⟩ := mem_modify hj
  ·exact h _ hy
  ·exact h y hy
 ·exact h j hj
theorem NmB.next {b : Bk} {x : Nt} (hx : ntF x = 0) (h : NmB b) : NmB (ntS b x) := by
 obtain ⟨hp, hj⟩ := ntF_pr hx
 unfold ntS
 by_cases c1 : x.kd = 1
 ·rw [if_pos c1]
  refine ⟨fun j hjj => ?_, h.sp⟩
  rcases List.mem_append.1 hjj with hjj | hjj
  ·exact h.js j hjj
  ·rw [List.mem_singleton] at hjj
   subst hjj
   exact ⟨key_len (hp (by omega)), key_len (hj c1)⟩
 rw [if_neg c1]
 by_cases c2 : x.kd = 2
 ·rw [if_pos c2]; exact ⟨layJ_nm h.js, h.sp⟩
 rw [if_neg c2]
 by_cases c3 : x.kd = 3
 ·rw [if_pos c3]; exact ⟨stopJ_nm h.js, h.sp⟩
 rw [if_neg c3]
 by_cases c4 : x.kd = 4
 ·rw [if_pos c4]; exact ⟨stopJ_nm h.js, h.sp⟩
 rw [if_neg c4]
 by_cases c5 : x.kd = 5
 ·rw [if_pos c5]
  refine ⟨h.js, fun e he => ?_⟩
  rcases mset_memk he with ⟨f, hf, he⟩ | he
  ·rw [he]; exact h.sp f hf
  ·rw [he]; exact key_len (hp (by omega))
 rw [if_neg c5]
 by_cases c6 : x.kd = 6
 ·rw [if_pos c6]; exact ⟨h.js, h.sp⟩
 rw [if_neg c6]
 exact h
theorem bkK_nm {l : List Nt} (hl : ∀ x ∈ l, ntF x = 0) (ix : List Int) : ∀ k, NmB (bkK l ix k).1
 | 0 => ⟨fun j h => (by cases h), fun e h => (by cases h)⟩
 | k + 1 => by
  have h := bkK_nm hl ix k
  rw [bkK]
  split
  ·split
   ·rename_i x hx
    unfold bkStep
    split
    ·exact h
    ·exact h.next (hl x (List.mem_of_getElem? hx))
   ·exact h
  ·exact h
theorem bksF_nm {l : List Nt} {at_ : Int} (hs : ∀ x ∈ l, ntF x = 0) : NmB (bksF l (cntP at_ l)).1 := bkK_nm hs _ _
theorem nodup_below {n : Nat} {L : List Nat} (h : L.Nodup) (hs : ∀ x ∈ L, x < n) : L.length ≤ n := by
 have : L.Perm ((List.range n).filter fun k => L.contains k) := (List.perm_ext_iff_of_nodup h (List.nodup_range.filter _)).2 fun a => by
  rw [List.mem_filter, List.mem_range]
  simp only [List.contains_iff_mem]
  exact ⟨fun ha => ⟨hs a ha, ha⟩, fun ha => ha.2⟩
 have h2 := this.length_eq
 have h3 := List.length_filter_le (fun k => L.contains k) (List.range n)
 rw [List.length_range] at h3
 omega
theorem zn2 {α β : Type} [DecidableEq α] : ∀ {l : List (Nat × α × β)} {e : Nat × α × β}, (l.map (·.2.1)).Nodup → e ∈ l → mget l e.2.1 = some e.2.2
 | [], e, _, h => by cases h
 | x :: l, e, hn, h => by
  rw [List.map_cons, List.nodup_cons] at hn
  simp only [mget]
  rcases List.mem_cons.1 h with rfl | h
  ·rw [if_pos rfl]
  ·rw [if_neg fun e2 => hn.1 (by rw [← e2]; exact List.mem_map_of_mem (f := (·.2.1)) h)]
   exact zn2 hn.2 h
theorem RunOk.key {js : List Jb} {rl : List (Nat × List UInt8 × List UInt8)} (h : RunOk js rl) {ck : Nat} (hm : MapOk rl ck) {e : Nat × List UInt8 × List UInt8} (he : e ∈ rl) : ∃ k j, runI js e.2.1 = some k ∧ js[k]? = some j ∧ j.pr = e.2.1 ∧ j.st = 0 ∧ j.nm = e.2.2 := by
 have h1 := zn2 hm.nk he
 rw [h] at h1
 cases hr : runI js e.2.1 with
 | none => rw [hr] at h1; cases h1
 | some k =>
  obtain ⟨j, hj, h2, h3⟩ := zR1 hr
  rw [hr] at h1
  simp only [Option.bind_some] at h1
  rw [hj] at h1
  simp only [Option.map_some, Option.some.injEq] at h1
  exact ⟨k, j, rfl, hj, h2, h3, h1⟩
theorem RunOk.len {js : List Jb} {rl : List (Nat × List UInt8 × List UInt8)} (h : RunOk js rl) {ck : Nat} (hm : MapOk rl ck) : rl.length ≤ js.length := by
 have hn : (rl.map fun e => (runI js e.2.1).getD 0).Nodup := by
  have h1 : rl.Pairwise fun a b => a.2.1 ≠ b.2.1 := List.pairwise_map.1 hm.nk
  refine List.pairwise_map.2 (List.Pairwise.imp_of_mem (fun {a b} ha hb hne e => ?_) h1)
  obtain ⟨k, j, g1, g2, g3, _⟩ := h.key hm ha
  obtain ⟨k2, j2, q1, q2, q3, _⟩ := h.key hm hb
  rw [g1, q1] at e
  simp only [Option.getD_some] at e
  subst e
  rw [g2] at q2
  injection q2 with q2
  subst q2
  exact hne (g3.symm.trans q3)
 have := nodup_below (n := js.length) hn fun x hx => by
  obtain ⟨e, he, rfl⟩ := List.mem_map.1 hx
  obtain ⟨k, j, g1, g2, _⟩ := h.key hm he
  rw [g1]
  exact (List.getElem?_eq_some_iff.1 g2).1
 rwa [List.length_map] at this
set_option maxHeartbeats 1000000 in
theorem runningP_v (hSK : SortedKeysOk) (v : Value) (l : List Nt) (at_ : Int) (hl : l.length ≤ 1000000) (hs : ∀ x ∈ l, NtS x) : ACalls Tryz.prog 12 [.c (.r v (noRs l)), .c (I at_)] [] fun u H => ∃ (r : List Pr) (co : Nat), ((askF l at_ ≠ 0 ∧ r = []) ∨ (askF l at_ = 0 ∧ ∃ rl rk, RunOk (bksF l (cntP at_ l)).1.js rl ∧ MapOk rl rk ∧ r = srtP rl)) ∧ r.length ≤ 2000 ∧ r.length ≤ co ∧ u = .t [.o 0 0 r.length co, .c (I (askF l at_))] ∧ H = [.arr 56 2 co (prRs r)] := by
 by_cases h0 : askF l at_ = 0
 ·have hjl := bksF_js (at_ := at_) (zH (zf1 h0)).1
  have hnm := bksF_nm (at_ := at_) (zH (zf1 h0)).2
  rw [h0]
  refine zj (N := 22) Tryz.func12 rfl rfl (by simp) fun E hE => ?_
  refine WA ?_
  refine WR ?_
  refine zf rfl (zc false (fun _ => zk2 v l at_ hl hs h0) rfl .fn rfl (by decide) (by kernel_rfl) rfl (fun _ => C0 rfl) (by simp)) ?_
  rintro _ _ ⟨_, _, _, ⟨rfl, b, R1, R2, bl, rl, rk, c1, c2, hbf, hB, hbl, hrl, hrm, h1l, h2l, hc1, hc2, rfl⟩, hF, hH⟩
  (refine NST hF hH ?_; clear hF hH; rintro rfl rfl)
  refine WE ?_
  refine WA ?_
  refine za rfl ?_
  refine ZZ ?_
  rw [hbf] at hjl hnm
  simp only at hjl hnm
  have hrlen := hrl.len hrm
  have hkl : ∀ e ∈ rl, e.2.1.length ≤ 1000000 := fun e he => by
   obtain ⟨k, j, _, g2, g3, _⟩ := hrl.key hrm he
   have := (hnm.js j (List.mem_of_getElem? g2)).1
   rw [← g3]
   omega
  have hsl : (srtP rl).length = rl.length := by simp [srtP, zi3]
  refine WR ?_
  refine zf rfl (zW [2] (fun _ => [mSS rl rk]) false (fun _ => pairs_v hSK rl rk hrm (by omega) hkl) rfl .fn rfl (by decide) (by kernel_rfl) rfl ZCH (by decide) ZCH (by simp)) ?_
  rintro F1 H1 ⟨_, _, _, _, ⟨co, cs, hco, rfl, rfl⟩, hF, hH⟩
  rw [zF] at hF; (refine NSU hF hH ?_; clear hF hH; rintro rfl rfl)
  refine WE ?_
  exact zc1 (us := [.o 11 0 rl.length co, .c (I 0)]) [some 11] (fun _ => .t [.o 0 0 rl.length co, .c (I 0)]) (fun _ => [.arr 56 2 co (prRs (srtP rl))]) (.tmp rfl (.tmp rfl .nil)) (by decide) (ZNK rfl) (fun _ => .tL (.cons (.o rfl rfl) (.cons (.c rfl) .nil))) ZCH (fun _ => ⟨srtP rl, co, .inr ⟨rfl, rl, rk, by rw [hbf]; exact hrl, hrm, rfl⟩, by omega, by omega, by rw [hsl], rfl⟩)
 ·refine zj (N := 22) Tryz.func12 rfl rfl (by simp) fun E hE => ?_
  refine WA ?_
  refine WR ?_
  refine zf rfl (zc false (fun _ => zl2 v l at_ hl hs h0) rfl .fn rfl (by decide) (by kernel_rfl) rfl (fun _ => C0 rfl) (by simp)) ?_
  rintro _ _ ⟨_, _, _, ⟨rfl, rfl⟩, hF, hH⟩
  (refine NST hF hH ?_; clear hF hH; rintro rfl rfl)
  refine WE ?_
  generalize askF l at_ = e at h0 ⊢
  refine WA ?_
  refine zb rfl ?_
  refine WA ?_
  exact zc1 (us := [.c (.r (.slice none 0 0) []), .c (I e)]) [none] (fun _ => .t [.o 0 0 0 0, .c (I e)]) (fun _ => [.arr 56 2 0 []]) (.tmp rfl (.tmp rfl .nil)) (by decide) (ZNK rfl) (fun _ => .tL (.cons (.nil rfl) (.cons (.c rfl) .nil))) ZCH (fun _ => ⟨[], 0, .inl ⟨h0, rfl⟩, Nat.zero_le _, Nat.le_refl _, rfl, rfl⟩)
end Go.Proofs.YtcdeonjdipcgpaaGreatDoor
namespace Go.Proofs.YtcdeonjdipcgpaaGreatDoor
open Go Go.RowKit
theorem cmpB_lt : ∀ {a b : List UInt8}, cmpB a b < 0 ↔ a < b
 | [], [] => by simp [cmpB]
 | [], b :: bl => by simp [cmpB]
 | a :: al, [] => by simp [cmpB]
 | a :: al, b :: bl => by
  rw [List.cons_lt_cons_iff, ← cmpB_lt (a := al) (b := bl)]
  simp only [cmpB]
  by_cases h1 : a = b
  ·subst h1
   simp [UInt8.lt_irrefl]
  ·by_cases h2 : a < b
   ·simp [h1, h2]
   ·simp [h1, h2]
theorem perm_vals {l : List (Nat × List UInt8 × List UInt8)} (hn : (l.map (·.2.1)).Nodup) : (l.map (·.2.1)).map (valP l) = l.map (·.2) := by
 rw [List.map_map]
 refine List.map_congr_left fun e he => ?_
 show valP l e.2.1 = e.2
 unfold valP
 rw [zn2 hn he]
 rfl
theorem srtP_perm {l : List (Nat × List UInt8 × List UInt8)} (hn : (l.map (·.2.1)).Nodup) : (srtP l).Perm (l.map (·.2)) := by
 rw [← perm_vals hn]
 exact (List.mergeSort_perm _ _).map _
theorem srtP_srt (l : List (Nat × List UInt8 × List UInt8)) : (srtP l).Pairwise fun a b => ¬ cmpB b.1 a.1 < 0 := by
 have tr : ∀ a b c : List UInt8, decide (a ≤ b) = true → decide (b ≤ c) = true → decide (a ≤ c) = true := fun a b c h1 h2 => by simp only [decide_eq_true_eq] at *; exact List.le_trans h1 h2
 have to : ∀ a b : List UInt8, (decide (a ≤ b) || decide (b ≤ a)) = true := fun a b => by simp only [Bool.or_eq_true, decide_eq_true_eq]; exact List.le_total a b
 have h := List.pairwise_mergeSort (le := fun x y : List UInt8 => decide (x ≤ y)) tr to (l.map (·.2.1))
 unfold srtP srtK
 rw [List.pairwise_map]
 refine h.imp fun {a b} hab => ?_
 simp only [decide_eq_true_eq] at hab
 show ¬ cmpB b a < 0
 rw [cmpB_lt]
 exact List.not_lt.2 hab
theorem srtP_uniq {l : List (Nat × List UInt8 × List UInt8)} {ck : Nat} (hm : MapOk l ck) {l2 : List Pr} (hp : l2.Perm (l.map (·.2))) (hs : l2.Pairwise fun a b => ¬ cmpB b.1 a.1 < 0) : srtP l = l2 := by
 have hp2 := (srtP_perm hm.nk).trans hp.symm
 refine List.Perm.eq_of_pairwise (le := fun a b : Pr => ¬ cmpB b.1 a.1 < 0) (fun a b ha hb h1 h2 => ?_) (srtP_srt l) hs hp2
 have hn := cmpB_neg (a := a.1) (b := b.1)
 have he : a.1 = b.1 := cmpB_eq.1 (by omega)
 have h3 := (srtP_perm hm.nk).subset ha
 have h4 := hp.subset hb
 obtain ⟨e, g1, rfl⟩ := List.mem_map.1 h3
 obtain ⟨f, g2, rfl⟩ := List.mem_map.1 h4
 have m1 := zn2 hm.nk g1
 have m2 := zn2 hm.nk g2
 have he' : e.2.1 = f.2.1 := he
 rw [he', m2] at m1
 injection m1 with m1
 exact Prod.ext he' m1.symm
theorem run_perm {js : List Jb} {rl : List (Nat × List UInt8 × List UInt8)} {rk : Nat} (hJ : JsOk js) (h : RunOk js rl) (hm : MapOk rl rk) : (js.filterMap rnPr).Perm (rl.map (·.2)) := by
 have n1 : (js.filterMap rnPr).Nodup := by
  refine List.pairwise_filterMap.2 (List.pairwise_iff_getElem.2 fun i k hi hk hik p hp q hq e => ?_)
  subst e
  unfold rnPr at hp hq
  split at hp
  ·rename_i s1
   split at hq
   ·rename_i s2
    simp only [Option.some.injEq] at hp hq
    rw [← hq] at hp
    have := hJ.pr i k _ _ (List.getElem?_eq_getElem hi) (List.getElem?_eq_getElem hk) (congrArg Prod.fst hp) s1 s2
    omega
   ·cases hq
  ·cases hp
 have n2 : (rl.map (·.2)).Nodup := by
  have h1 : rl.Pairwise fun a b => a.2.1 ≠ b.2.1 := List.pairwise_map.1 hm.nk
  exact List.pairwise_map.2 (h1.imp fun {a b} hne e => hne (congrArg Prod.fst e))
 refine (List.perm_ext_iff_of_nodup n1 n2).2 fun p => ⟨fun hp => ?_, fun hp => ?_⟩
 ·obtain ⟨j, hj, hp⟩ := List.mem_filterMap.1 hp
  unfold rnPr at hp
  split at hp
  ·rename_i s1
   simp only [Option.some.injEq] at hp
   obtain ⟨k, hk⟩ := List.mem_iff_getElem?.1 hj
   have h1 := h j.pr
   rw [runI_is hJ hk s1] at h1
   simp only [Option.bind_some] at h1
   rw [hk] at h1
   obtain ⟨i, hi⟩ := mget_mem h1
   exact List.mem_map.2 ⟨_, hi, hp⟩
  ·cases hp
 ·obtain ⟨e, he, rfl⟩ := List.mem_map.1 hp
  obtain ⟨k, j, g1, g2, g3, g4, g5⟩ := h.key hm he
  exact List.mem_filterMap.2 ⟨j, List.mem_of_getElem? g2, by unfold rnPr; rw [if_pos g4, g3, g5]⟩
end Go.Proofs.YtcdeonjdipcgpaaGreatDoor
