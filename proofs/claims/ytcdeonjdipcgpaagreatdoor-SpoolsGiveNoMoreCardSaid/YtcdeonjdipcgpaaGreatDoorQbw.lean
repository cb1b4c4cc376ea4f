/- Books of jobs, plain: what holds of every job. -/
import Derived.Test.YtcdeonjdipcgpaaGreatDoorQbv
import Derived.Test.YtcdeonjdipcgpaaGreatDoorQbq
import Derived.Test.YtcdeonjdipcgpaaGreatDoorQbc
import Derived.Test.YtcdeonjdipcgpaaGreatDoorQat
import Derived.Shelf.Strconv.Itoa3
import Derived.Lib.LaidTab
import Derived.Test.YtcdeonjdipcgpaaGreatDoorProg
import Derived.Lib.ItoaLen
import Derived.Test.YtcdeonjdipcgpaaGreatDoorQbg
set_option linter.unusedSimpArgs false
set_option linter.unusedVariables false
-- NEWM
namespace Go.Proofs.YtcdeonjdipcgpaaGreatDoor
open Go Go.RowKit
set_option maxRecDepth 100000
theorem seen_perm {n : Nat} {seen : List Nat} (hn : seen.Nodup) (h1 : ∀ k ∈ seen, k < n) (h2 : ∀ k, k < n → k ∈ seen) : seen.Perm (List.range n) :=
 (List.perm_ext_iff_of_nodup hn List.nodup_range).2 fun k => ⟨fun h => List.mem_range.2 (h1 k h), fun h => h2 k (List.mem_range.1 h)⟩
theorem range_fm {α β : Type} (f : α → Option β) : ∀ (l : List α), ((List.range l.length).filterMap fun k => l[k]?.bind f) = l.filterMap f
 | [] => rfl
 | x :: l => by
  rw [List.length_cons, List.range_succ_eq_map, List.filterMap_cons, List.filterMap_map]
  simp only [Function.comp_def, List.getElem?_cons_zero, List.getElem?_cons_succ, Option.bind_some, Nat.succ_eq_add_one]
  rw [range_fm f l, List.filterMap_cons]
def fmJ {β : Type} (f : Jb → Option β) (js : List Jb) (seen : List Nat) : List β := seen.filterMap fun k => js[k]?.bind f
theorem fmJ_some {β : Type} {f : Jb → Option β} {js : List Jb} {seen : List Nat} {k : Nat} {j : Jb} {p : β} (h : js[k]? = some j) (hf : f j = some p) : fmJ f js (seen ++ [0 + k]) = fmJ f js seen ++ [p] := by
 unfold fmJ
 rw [List.filterMap_append, Nat.zero_add]
 simp [h, hf]
theorem fmJ_all {β : Type} {f : Jb → Option β} {js : List Jb} {seen : List Nat} (hn : seen.Nodup) (h1 : ∀ k ∈ seen, k < js.length) (h2 : ∀ k, k < js.length → k ∈ seen) : (fmJ f js seen).Perm (js.filterMap f) := by
 have := (seen_perm hn h1 h2).filterMap fun k => js[k]?.bind f
 rwa [range_fm f js] at this
theorem fmJ_len {β : Type} (f : Jb → Option β) (js : List Jb) (seen : List Nat) : (fmJ f js seen).length ≤ seen.length := List.length_filterMap_le _ _
theorem ntS_len (b : Bk) (x : Nt) : (ntS b x).js.length ≤ b.js.length + 1 := by
 unfold ntS
 repeat' split
 all_goals simp [layJ, stopJ]
 all_goals (split <;> simp)
theorem bkK_js (l : List Nt) (ix : List Int) : ∀ k, (bkK l ix k).1.js.length ≤ k
 | 0 => by simp [bkK, bk0]
 | k + 1 => by
  have h := bkK_js l ix k
  rw [bkK]
  split
  ·split
   ·unfold bkStep
    split
    ·simp only; omega
    ·rename_i x _ _
     have := ntS_len (bkK l ix k).1 x
     simp only
     omega
   ·omega
  ·omega
theorem bksF_js {l : List Nt} {at_ : Int} (hl : l.length ≤ 2000) : (bksF l (cntP at_ l)).1.js.length ≤ 2000 := by
 have h1 := bkK_js l (cntP at_ l) (cntP at_ l).length
 have h2 := zQ3 at_ l l.length (Nat.le_refl _)
 have h3 : (cntP at_ l).length ≤ 2000 := by unfold cntP; rw [List.length_reverse]; omega
 unfold bksF
 omega
theorem unsG_le {α β : Type} (es : List (Nat × α × β)) (seen : List Nat) : unsG es seen ≤ es.length := by
 unfold unsG
 exact List.length_filter_le _ _
def stPr (j : Jb) : Option Pr := some (j.nm, stW j.st)
end Go.Proofs.YtcdeonjdipcgpaaGreatDoor
-- NEWM
namespace Go.Proofs.YtcdeonjdipcgpaaGreatDoor
open Go Go.RowKit Go.Shelf
set_option maxRecDepth 100000
def itoaL_ren : Go.Shelf.Ren := ⟨fun | 171 => 59 | 243 => 109 | 246 => 166 | 283 => 231 | 284 => 232 | 285 => 233 | 286 => 234 | 129 => 210 | 317 => 292 | 318 => 293 | 319 => 294 | 320 => 295 | 337 => 329 | 338 => 330 | n => n, fun | 3 => 3 | 9 => 9 | 2 => 2 | 4 => 4 | 171 => 298 | 0 => 0 | 53 => 265 | 37 => 164 | 5 => 5 | 173 => 300 | 212 => 365 | 51 => 262 | 20 => 20 | 213 => 366 | 46 => 210 | 232 => 417 | 233 => 418 | n => n, fun | 17 => 3 | 18 => 6 | 19 => 7 | n => n⟩
theorem itoaL : Go.Proofs.LaysM.n171 Tryz.prog itoaL_ren := {
 mixed := by kernel_rfl
 f129 := Tryz.func210.trans (congrArg some (by kernel_rfl))
 f171 := Tryz.func59.trans (congrArg some (by kernel_rfl))
 f243 := Tryz.func109.trans (congrArg some (by kernel_rfl))
 f246 := Tryz.func166.trans (congrArg some (by kernel_rfl))
 f283 := Tryz.func231.trans (congrArg some (by kernel_rfl))
 f284 := Tryz.func232.trans (congrArg some (by kernel_rfl))
 f285 := Tryz.func233.trans (congrArg some (by kernel_rfl))
 f286 := Tryz.func234.trans (congrArg some (by kernel_rfl))
 f317 := Tryz.func292.trans (congrArg some (by kernel_rfl))
 f318 := Tryz.func293.trans (congrArg some (by kernel_rfl))
 f319 := Tryz.func294.trans (congrArg some (by kernel_rfl))
 f320 := Tryz.func295.trans (congrArg some (by kernel_rfl))
 f337 := Tryz.func329.trans (congrArg some (by kernel_rfl))
 f338 := Tryz.func330.trans (congrArg some (by kernel_rfl))
 t0 := Tryz.underlying0
 a0 := Tryz.isAgg0
 z0 := Tryz.sizeOf0
 v0 := Tryz.zeroValue0
 t2 := Tryz.underlying2
 a2 := Tryz.isAgg2
 z2 := Tryz.sizeOf2
 v2 := Tryz.zeroValue2
 t3 := Tryz.underlying3
 a3 := Tryz.isAgg3
 z3 := Tryz.sizeOf3
 v3 := Tryz.zeroValue3
 t4 := Tryz.underlying4
 a4 := Tryz.isAgg4
 z4 := Tryz.sizeOf4
 v4 := Tryz.zeroValue4
 t5 := Tryz.underlying5
 a5 := Tryz.isAgg5
 z5 := Tryz.sizeOf5
 v5 := Tryz.zeroValue5
 t9 := Tryz.underlying9
 a9 := Tryz.isAgg9
 z9 := Tryz.sizeOf9
 v9 := Tryz.zeroValue9
 t20 := Tryz.underlying20
 a20 := Tryz.isAgg20
 z20 := Tryz.sizeOf20
 v20 := Tryz.zeroValue20
 t37 := Tryz.underlying164
 a37 := Tryz.isAgg164
 z37 := Tryz.sizeOf164
 v37 := Tryz.zeroValue164
 t46 := Tryz.underlying210
 a46 := Tryz.isAgg210
 z46 := Tryz.sizeOf210
 v46 := Tryz.zeroValue210
 t51 := Tryz.underlying262
 a51 := Tryz.isAgg262
 z51 := Tryz.sizeOf262
 v51 := Tryz.zeroValue262
 t53 := Tryz.underlying265
 a53 := Tryz.isAgg265
 z53 := Tryz.sizeOf265
 v53 := Tryz.zeroValue265
 t171 := Tryz.underlying298
 a171 := Tryz.isAgg298
 z171 := Tryz.sizeOf298
 v171 := Tryz.zeroValue298
 t173 := Tryz.underlying300
 a173 := Tryz.isAgg300
 z173 := Tryz.sizeOf300
 v173 := Tryz.zeroValue300
 t212 := Tryz.underlying365
 a212 := Tryz.isAgg365
 z212 := Tryz.sizeOf365
 v212 := Tryz.zeroValue365
 t213 := Tryz.underlying366
 a213 := Tryz.isAgg366
 z213 := Tryz.sizeOf366
 t232 := Tryz.underlying417
 a232 := Tryz.isAgg417
 z232 := Tryz.sizeOf417
 v232 := Tryz.zeroValue417
 t233 := Tryz.underlying418
 a233 := Tryz.isAgg418
 z233 := Tryz.sizeOf418
 v233 := Tryz.zeroValue418
 g17 := by kernel_rfl
 g18 := by kernel_rfl
 g19 := by kernel_rfl
 i0 := by kernel_rfl
 i2 := by kernel_rfl
 i3 := by kernel_rfl
 i4 := by kernel_rfl
 i5 := by kernel_rfl
 i9 := by kernel_rfl
 i20 := by kernel_rfl
 i37 := by kernel_rfl
 i46 := by kernel_rfl
 i51 := by kernel_rfl
 i53 := by kernel_rfl
 i171 := by kernel_rfl
 i173 := by kernel_rfl
 i212 := by kernel_rfl
 i232 := by kernel_rfl
 i233 := by kernel_rfl
 m17 := by kernel_rfl
 m18 := by kernel_rfl
 m19 := by kernel_rfl }
theorem tabIs_stp {P : Program} {w w' : World} {nm : String} {k : IntKind} {zs : List Int} (h : Stp w w' fun _ => False) (hx : Lib.TabIs P w nm k zs) : Lib.TabIs P w' nm k zs := by
 unfold Lib.TabIs World.var? at *
 cases hg : P.globalNamed nm with
 | none => rw [hg] at hx; cases hx
 | some g =>
  rw [hg] at hx
  simp only [Option.bind_some] at hx ⊢
  have hlt : g < w.heap.size := by
   rcases Nat.lt_or_ge g w.heap.size with h2 | h2
   ·exact h2
   ·rw [Array.getElem?_eq_none h2] at hx; cases hx
  rw [h.block g hlt fun h => h]
  exact hx
def TabX (w : World) : Prop := Lib.TabIs Tryz.prog w "internal/strconv.uint64pow10" .u64 Lib.pow10Tab
theorem tabX_stp (w w' : World) (h : Stp w w' fun _ => False) (hx : TabX w) : TabX w' := tabIs_stp h hx
theorem acallsW_grow {P : Program} {X : World → Prop} {f : FuncId} {args : List AV} {u : CV} (hu : ∃ v, u = .s v) (h : ∀ ρ w, X w → Calls P f (args.map (AV.den ρ [])).toArray w fun e w' => e = .returned u.den ∧ ∃ k os, w' = Sort.grow (w.drewN k) os) : ACallsW X false P f args [] fun u' H => u' = .c u ∧ H = [] := fun S ρ w hx hR hW => by
 refine (h ρ w hx).mono ?_
 rintro e w' ⟨rfl, k, os, rfl⟩
 have hsz : w.heap.size ≤ (Sort.grow (w.drewN k) os).heap.size := by simp [Sort.grow, World.drewN]
 obtain ⟨v, rfl⟩ := hu
 refine ⟨.c (.s v), [], ρ, S, rfl, ⟨rfl, rfl⟩, .c (.s v), ⟨hR.len, hR.nd, hR.ap, fun i B h => Nat.lt_of_lt_of_le (hR.lt i B h) hsz, fun b hb => Nat.lt_of_lt_of_le (hR.sS b hb) hsz, fun i o h => by simp at h, PL.none fun _ _ _ => zJ2⟩, ⟨rfl, rfl, rfl, hsz, fun b hb _ => ?_, ?_⟩, fun b hb => .inl hb, fun i B hi => ?_, fun i k' B hi => absurd hi zJ2, fun i hi => by simp at hi, fun h => by cases h⟩
 ·simp only [Sort.grow, World.drewN]
  rw [Array.getElem?_append_left hb]
 ·show w.drawn ≤ w.drawn + k
  exact Nat.le_add_right _ _
 ·have hr0 : ρ = [] := List.eq_nil_of_length_eq_zero hR.len
  subst hr0
  cases hi
theorem itoa_v (n : Int) (h0 : -9223372036854775808 ≤ n) (h1 : n ≤ 9223372036854775807) : ACallsW TabX false Tryz.prog 59 [.c (I n)] [] fun u H => u = .c (T (Lib.itoa n)) ∧ H = [] :=
 acallsW_grow ⟨_, rfl⟩ fun _ w hx => Any.strconv_Itoa itoaL n h0 h1 w hx
end Go.Proofs.YtcdeonjdipcgpaaGreatDoor
-- NEWM
namespace Go.Proofs.YtcdeonjdipcgpaaGreatDoor
open Go Go.RowKit
set_option maxRecDepth 100000
theorem mset_mem {α β : Type} [DecidableEq α] {ck : Nat} {a : α} {b : β} : ∀ {l : List (Nat × α × β)} {e : Nat × α × β}, e ∈ mset ck a b l → e ∈ l ∨ e.2.2 = b
 | [], e, h => by
  simp only [mset, List.mem_singleton] at h
  subst h
  exact .inr rfl
 | x :: l, e, h => by
  simp only [mset] at h
  split at h
  ·rcases List.mem_cons.1 h with rfl | h
   ·exact .inr rfl
   ·exact .inl (List.mem_cons_of_mem _ h)
  ·rcases List.mem_cons.1 h with rfl | h
   ·exact .inl (by simp)
   ·rcases mset_mem h with h | h
    ·exact .inl (List.mem_cons_of_mem _ h)
    ·exact .inr h
theorem mset_len {α β : Type} [DecidableEq α] {ck : Nat} {a : α} {b : β} : ∀ (l : List (Nat × α × β)), (mset ck a b l).length ≤ l.length + 1
 | [] => by simp [mset]
 | x :: l => by
  simp only [mset]
  split
  ·simp
  ·have := mset_len (ck := ck) (a := a) (b := b) l
   simp only [List.length_cons]
   omega
theorem key_len {s : List UInt8} (h : keyB s = true) : s.length ≤ 40 := by
 cases s with
 | nil => simp
 | cons b r =>
  rw [ze3] at h
  simp only [Bool.and_eq_true, decide_eq_true_eq] at h
  exact h.1.1
theorem ntS_sp {b : Bk} {x : Nt} {k : Nat} (hx : ntF x = 0) (h1 : b.sp.length ≤ k) (h2 : ∀ e ∈ b.sp, e.2.2.length ≤ 40) : (ntS b x).sp.length ≤ k + 1 ∧ ∀ e ∈ (ntS b x).sp, e.2.2.length ≤ 40 := by
 have h5 := (ntF_ok hx).2.2.1
 unfold ntS
 by_cases c1 : x.kd = 1
 ·rw [if_pos c1]; exact ⟨by simp only; omega, h2⟩
 rw [if_neg c1]
 by_cases c2 : x.kd = 2
 ·rw [if_pos c2]; exact ⟨by simp only; omega, h2⟩
 rw [if_neg c2]
 by_cases c3 : x.kd = 3
 ·rw [if_pos c3]; exact ⟨by simp only; omega, h2⟩
 rw [if_neg c3]
 by_cases c4 : x.kd = 4
 ·rw [if_pos c4]; exact ⟨by simp only; omega, h2⟩
 rw [if_neg c4]
 by_cases c5 : x.kd = 5
 ·rw [if_pos c5]
  refine ⟨?_, fun e he => ?_⟩
  ·have := mset_len (ck := b.spk) (a := x.pr) (b := x.sp) b.sp
   simp only
   omega
  ·rcases mset_mem he with he | he
   ·exact h2 e he
   ·rw [he]; exact key_len (h5 c5).1
 rw [if_neg c5]
 by_cases c6 : x.kd = 6
 ·rw [if_pos c6]; exact ⟨by simp only; omega, h2⟩
 rw [if_neg c6]
 exact ⟨by omega, h2⟩
theorem bkK_sp {l : List Nt} (hl : ∀ x ∈ l, ntF x = 0) (ix : List Int) : ∀ k, (bkK l ix k).1.sp.length ≤ k ∧ ∀ e ∈ (bkK l ix k).1.sp, e.2.2.length ≤ 40
 | 0 => by simp [bkK, bk0]
 | k + 1 => by
  obtain ⟨h1, h2⟩ := bkK_sp hl ix k
  rw [bkK]
  split
  ·split
   ·rename_i x hx
    unfold bkStep
    split
    ·exact ⟨by simp only; omega, h2⟩
    ·exact ntS_sp (hl x (List.mem_of_getElem? hx)) h1 h2
   ·exact ⟨by omega, h2⟩
  ·exact ⟨by omega, h2⟩
theorem bksF_sp {l : List Nt} {at_ : Int} (hl : l.length ≤ 2000) (hs : ∀ x ∈ l, ntF x = 0) : (bksF l (cntP at_ l)).1.sp.length ≤ 2000 ∧ ∀ e ∈ (bksF l (cntP at_ l)).1.sp, e.2.2.length ≤ 40 := by
 obtain ⟨h1, h2⟩ := bkK_sp hs (cntP at_ l) (cntP at_ l).length
 have h3 := zQ3 at_ l l.length (Nat.le_refl _)
 have h4 : (cntP at_ l).length ≤ 2000 := by unfold cntP; rw [List.length_reverse]; omega
 exact ⟨by unfold bksF; omega, h2⟩
def flPr (lf : List (Nat × List UInt8 × Int)) (e : Nat × List UInt8 × List UInt8) : Pr := (e.2.1, e.2.2 ++ [32] ++ Lib.itoa ((mget lf e.2.2).getD 0))
end Go.Proofs.YtcdeonjdipcgpaaGreatDoor
-- NEWM
namespace Go.Proofs.YtcdeonjdipcgpaaGreatDoor
open Go Go.RowKit
set_option maxRecDepth 100000
abbrev kR (l : List (List UInt8)) : List (List CV) := l.map fun s => [T s]
def srtK (l : List (Nat × List UInt8 × List UInt8)) : List (List UInt8) := (l.map (·.2.1)).mergeSort fun x y => decide (x ≤ y)
theorem za4 (l : List (Nat × List UInt8 × List UInt8)) : (srtK l).length = l.length := by
 unfold srtK
 rw [List.length_mergeSort, List.length_map]
def valP (l : List (Nat × List UInt8 × List UInt8)) (k : List UInt8) : Pr := (k, (mget l k).getD [])
def srtP (l : List (Nat × List UInt8 × List UInt8)) : List Pr := (srtK l).map (valP l)
theorem keys_v (l : List (Nat × List UInt8 × List UInt8)) (ck : Nat) : ACallsX true Tryz.prog 108 [.mp 0] [mSS l ck] fun u H => u = .f (.func 165) [.p 1 0 0] ∧ H = [mSS l ck, .box [.mp 0]] := by
 refine zg1 true (N := 4) Tryz.func108 rfl rfl (by simp) fun E hE hP => ?_
 refine WA ?_
 refine WA ?_
 exact zx1 (us := [.f (.func 165) [.p 1 0 0]]) [some 0, some 1] (fun _ => .f (.func 165) [.p 1 0 0]) (fun _ => [mSS l ck, .box [.mp 0]]) (.tmp rfl .nil) (by decide) (ZNK rfl) (fun _ => .fL (.cons (.p rfl) .nil)) ZCH (fun _ => ⟨rfl, rfl⟩)
def SortedKeysOk : Prop := ∀ (l : List (Nat × List UInt8 × List UInt8)) (ck : Nat), MapOk l ck → l.length ≤ 1000000 → (∀ e ∈ l, e.2.1.length ≤ 1000000) → ACallsX true Tryz.prog 107 [.f (.func 165) [.p 1 0 0]] [mSS l ck, .box [.mp 0]] fun u H => ∃ c, l.length ≤ c ∧ u = .o 2 0 l.length c ∧ H = [mSS l ck, .box [.mp 0], .arr 9 1 c (kR (srtK l))]
set_option maxHeartbeats 1000000 in
theorem pairs_v (hSK : SortedKeysOk) (l : List (Nat × List UInt8 × List UInt8)) (ck : Nat) (hok : MapOk l ck) (hl : l.length ≤ 1000000) (hk : ∀ e ∈ l, e.2.1.length ≤ 1000000) : ACallsX true Tryz.prog 57 [.mp 0] [mSS l ck] fun u H => ∃ c cs, l.length ≤ c ∧ u = .o 3 0 l.length c ∧ H = [mSS l ck, .box [.mp 0], .arr 9 1 cs (kR (srtK l)), .arr 56 2 c (prRs (srtP l))] := by
 refine zg1 true (N := 24) Tryz.func57 rfl rfl (by simp) fun E hE hP => ?_
 have hsl := za4 l
 have e0 : (kR (srtK l)).length = l.length := by simp [hsl]
 refine WA ?_
 refine WA ?_
 refine WR ?_
 refine zh rfl (zo1 [0] (fun _ => [mSS l ck]) false (fun _ => keys_v l ck) rfl .fn rfl (by decide) (by kernel_rfl) rfl ZCH (by decide) ZCH (by simp)) ?_
 rintro F1 H1 ⟨_, _, _, _, ⟨rfl, rfl⟩, hF, hH⟩
 rw [zT] at hF; (refine NSU hF hH ?_; clear hF hH; rintro rfl rfl)
 refine zh rfl (zo1 [0, 1] (fun _ => [mSS l ck, .box [.mp 0]]) false (fun _ => hSK l ck hok hl hk) rfl .fn rfl (by decide) (by kernel_rfl) rfl (fun _ => .cons (.fL (.cons (.p rfl) .nil)) .nil) (by decide) ZCH (by simp)) ?_
 rintro F1 H1 ⟨_, _, _, _, ⟨c, hc, rfl, rfl⟩, hF, hH⟩
 rw [zT] at hF; (refine NSU hF hH ?_; clear hF hH; rintro rfl rfl)
 refine WE ?_
 refine zP (fun m F H => ∃ (k co : Nat), m + k = l.length ∧ k ≤ co ∧ F = [(0, .mp 0), (3, .o 3 0 k co), (8, .o 2 0 l.length c), (9, .c (I l.length)), (10, .c (I k))] ∧ H = [mSS l ck, .box [.mp 0], .arr 9 1 c (kR (srtK l)), .arr 56 2 co (prRs ((srtP l).take k))]) ?_ ?_
 ·refine zo [some 0, some 1, some 2, none] (fun _ => [(0, .mp 0), (3, .o 3 0 0 0), (8, .o 2 0 l.length c), (9, .c (I l.length)), (10, .c (I (0 : Nat)))]) (fun _ => [mSS l ck, .box [.mp 0], .arr 9 1 c (kR (srtK l)), .arr 56 2 0 []]) (by decide) (by rw [hE]; exact (ZNK rfl)) ZCF ZCH (fun _ => ?_)
  exact ⟨_, 0, 0, Nat.add_zero _, Nat.le_refl _, rfl, rfl⟩
 rintro m F H ⟨k, co, hkm, hco, rfl, rfl⟩
 have e1 : (prRs ((srtP l).take k)).length = k := by simp [srtP, hsl]; omega
 refine WA ?_
 refine zz rfl (fun hlt => ?_) (fun hge => ?_)
 ·obtain ⟨s, hs⟩ : ∃ z, (srtK l)[k]? = some z := ⟨_, List.getElem?_eq_getElem (by omega)⟩
  have hrow : (kR (srtK l))[k]? = some [T s] := by rw [List.getElem?_map, hs]; rfl
  obtain ⟨q, hq⟩ : ∃ q, (mget l s).getD [] = q := ⟨_, rfl⟩
  have htk : (srtP l).take (k + 1) = (srtP l).take k ++ [(s, q)] := by
   rw [List.take_add_one, srtP, List.getElem?_map, hs]
   simp [valP, hq]
  refine WA ?_
  refine ZR ?_
  iterate 4 refine WX1 ?_
  refine ZA (rd_lkSS (k := s) (l := l) hq rfl rfl rfl rfl) ?_
  refine WO ?_
  refine zh rfl (Zapp (news := [[T s, T q]]) (j := 1) (hE := KA (t := 35) rfl) (hsrc := .own rfl rfl rfl) (hj := rfl) (hle := by omega) (hn := e1.symm)) ?_
  rintro F1 H1 ⟨_, cc, hcc, hF, hH⟩
  (refine NSU hF hH ?_; clear hF hH; rintro rfl rfl)
  refine WE ?_
  refine WA ?_
  refine zo [some 0, some 1, some 2, some 3] (fun _ => [(0, .mp 0), (3, .o 3 0 (k + 1) cc), (8, .o 2 0 l.length c), (9, .c (I l.length)), (10, .c (I (k + 1 : Nat)))]) (fun _ => [mSS l ck, .box [.mp 0], .arr 9 1 c (kR (srtK l)), .arr 56 2 cc (prRs ((srtP l).take (k + 1)))]) (by decide) (by rw [hE]; exact (ZNK rfl)) ZCF (by rw [htk]; simp only [prRs, prR, List.map_append, List.map_cons, List.map_nil]; exact ZCH) (fun _ => ?_)
  exact ⟨m - 1, by omega, k + 1, cc, by omega, by omega, rfl, rfl⟩
 obtain rfl : k = l.length := by omega
 have htk : (srtP l).take l.length = srtP l := by rw [List.take_of_length_le]; simp [srtP, hsl]
 rw [htk]
 refine ZZ ?_
 refine WA ?_
 exact aret_o (k := l.length) [some 0, some 1, some 2, some 3] (fun _ => [mSS l ck, .box [.mp 0], .arr 9 1 c (kR (srtK l)), .arr 56 2 co (prRs (srtP l))]) rfl rfl rfl rfl (b' := 3) rfl (by decide) (ZNK rfl) ZCH (fun _ => ⟨co, c, hco, rfl, rfl⟩)
end Go.Proofs.YtcdeonjdipcgpaaGreatDoor
-- NEWM
namespace Go.Proofs.YtcdeonjdipcgpaaGreatDoor
open Go Go.RowKit
set_option maxRecDepth 100000
theorem mset_memk {α β : Type} [DecidableEq α] {ck : Nat} {a : α} {b : β} : ∀ {l : List (Nat × α × β)} {e : Nat × α × β}, e ∈ mset ck a b l → (∃ f ∈ l, e.2.1 = f.2.1) ∨ e.2.1 = a
 | [], e, h => by
  simp only [mset, List.mem_singleton] at h
  subst h
  exact .inr rfl
 | x :: l, e, h => by
  simp only [mset] at h
  split at h
  ·rename_i hx
   rcases List.mem_cons.1 h with rfl | h
   ·exact .inr (by simp)
   ·exact .inl ⟨e, List.mem_cons_of_mem _ h, rfl⟩
  ·rcases List.mem_cons.1 h with rfl | h
   ·exact .inl ⟨_, List.mem_cons_self, rfl⟩
   ·rcases mset_memk h with ⟨f, hf, h⟩ | h
    ·exact .inl ⟨f, List.mem_cons_of_mem _ hf, h⟩
    ·exact .inr h
structure NmB (b : Bk) : Prop where
 js : ∀ j ∈ b.js, j.pr.length ≤ 40 ∧ j.nm.length ≤ 40
 sp : ∀ e ∈ b.sp, e.2.1.length ≤ 40
theorem ntF_pr {x : Nt} (h : ntF x = 0) : (x.kd ≠ 7 → keyB x.pr = true) ∧ (x.kd = 1 → keyB x.jb = true) := by
 unfold ntF at h
 split at h
 ·cases h
 split at h
 ·cases h
 split at h
 ·cases h
 split at h
 ·cases h
 rename_i h4
 clear h
 simp only [not_or, not_and, Bool.not_eq_false] at h4
 exact ⟨fun hk => h4.1 (by simp [uP, hk]), fun hk => h4.2.1 (by simp [uJ, hk])⟩
theorem mem_modify {α : Type} {f : α → α} {l : List α} {k : Nat} {x : α} (h : x ∈ l.modify k f) : ∃ y ∈ l, x = y ∨ x = f y := by
 obtain ⟨i, hi⟩ := List.mem_iff_getElem?.1 h
 rw [List.getElem?_modify] at hi
 cases hy : l[i]? with
 | none => rw [hy] at hi; simp at hi
 | some y =>
  rw [hy] at hi
  refine ⟨y, List.mem_of_getElem? hy, ?_⟩
  by_cases hk : k = i
  ·simp [hk] at hi
   exact .inr hi.symm
  ·simp [hk] at hi
   exact .inl hi.symm
theorem layJ_nm {js : List Jb} {q : List UInt8} {t : Int} (h : ∀ j ∈ js, j.pr.length ≤ 40 ∧ j.nm.length ≤ 40) : ∀ j ∈ layJ js q t, j.pr.length ≤ 40 ∧ j.nm.length ≤ 40 := fun j hj => by
 unfold layJ at hj
 split at hj
 ·obtain ⟨y, hy, rfl | rfl⟩ := mem_modify hj
  ·exact h _ hy
  ·exact h y hy
 ·exact h j hj
theorem stopJ_nm {js : List Jb} {q : List UInt8} {s t : Int} (h : ∀ j ∈ js, j.pr.length ≤ 40 ∧ j.nm.length ≤ 40) : ∀ j ∈ stopJ js q s t, j.pr.length ≤ 40 ∧ j.nm.length ≤ 40 := fun j hj => by
 unfold stopJ at hj
 split at hj
 ·obtain ⟨y, hy, rfl | rfl⟩ := mem_modify hj
  ·exact h _ hy
  ·exact h y hy
 ·exact h j hj
theorem NmB.next {b : Bk} {x : Nt} (hx : ntF x = 0) (h : NmB b) : NmB (ntS b x) := by
 obtain ⟨hp, hj⟩ := ntF_pr hx
 unfold ntS
 by_cases c1 : x.kd = 1
 ·rw [if_pos c1]
  refine ⟨fun j hjj => ?_, h.sp⟩
  rcases List.mem_append.1 hjj with hjj | hjj
  ·exact h.js j hjj
  ·rw [List.mem_singleton] at hjj
   subst hjj
   exact ⟨key_len (hp (by omega)), key_len (hj c1)⟩
 rw [if_neg c1]
 by_cases c2 : x.kd = 2
 ·rw [if_pos c2]; exact ⟨layJ_nm h.js, h.sp⟩
 rw [if_neg c2]
 by_cases c3 : x.kd = 3
 ·rw [if_pos c3]; exact ⟨stopJ_nm h.js, h.sp⟩
 rw [if_neg c3]
 by_cases c4 : x.kd = 4
 ·rw [if_pos c4]; exact ⟨stopJ_nm h.js, h.sp⟩
 rw [if_neg c4]
 by_cases c5 : x.kd = 5
 ·rw [if_pos c5]
  refine ⟨h.js, fun e he => ?_⟩
  rcases mset_memk he with ⟨f, hf, he⟩ | he
  ·rw [he]; exact h.sp f hf
  ·rw [he]; exact key_len (hp (by omega))
 rw [if_neg c5]
 by_cases c6 : x.kd = 6
 ·rw [if_pos c6]; exact ⟨h.js, h.sp⟩
 rw [if_neg c6]
 exact h
theorem bkK_nm {l : List Nt} (hl : ∀ x ∈ l, ntF x = 0) (ix : List Int) : ∀ k, NmB (bkK l ix k).1
 | 0 => ⟨fun j h => (by cases h), fun e h => (by cases h)⟩
 | k + 1 => by
  have h := bkK_nm hl ix k
  rw [bkK]
  split
  ·split
   ·rename_i x hx
    unfold bkStep
    split
    ·exact h
    ·exact h.next (hl x (List.mem_of_getElem? hx))
   ·exact h
  ·exact h
theorem bksF_nm {l : List Nt} {at_ : Int} (hs : ∀ x ∈ l, ntF x = 0) : NmB (bksF l (cntP at_ l)).1 := bkK_nm hs _ _
theorem nodup_below {n : Nat} {L : List Nat} (h : L.Nodup) (hs : ∀ x ∈ L, x < n) : L.length ≤ n := by
 have : L.Perm ((List.range n).filter fun k => L.contains k) := (List.perm_ext_iff_of_nodup h (List.nodup_range.filter _)).2 fun a => by
  rw [List.mem_filter, List.mem_range]
  simp only [List.contains_iff_mem]
  exact ⟨fun ha => ⟨hs a ha, ha⟩, fun ha => ha.2⟩
 have h2 := this.length_eq
 have h3 := List.length_filter_le (fun k => L.contains k) (List.range n)
 rw [List.length_range] at h3
 omega
theorem zN3 {α β : Type} [DecidableEq α] : ∀ {l : List (Nat × α × β)} {e : Nat × α × β}, (l.map (·.2.1)).Nodup → e ∈ l → mget l e.2.1 = some e.2.2
 | [], e, _, h => by cases h
 | x :: l, e, hn, h => by
  rw [List.map_cons, List.nodup_cons] at hn
  simp only [mget]
  rcases List.mem_cons.1 h with rfl | h
  ·rw [if_pos rfl]
  ·rw [if_neg fun e2 => hn.1 (by rw [← e2]; exact List.mem_map_of_mem (f := (·.2.1)) h)]
   exact zN3 hn.2 h
theorem RunOk.key {js : List Jb} {rl : List (Nat × List UInt8 × List UInt8)} (h : RunOk js rl) {ck : Nat} (hm : MapOk rl ck) {e : Nat × List UInt8 × List UInt8} (he : e ∈ rl) : ∃ k j, runI js e.2.1 = some k ∧ js[k]? = some j ∧ j.pr = e.2.1 ∧ j.st = 0 ∧ j.nm = e.2.2 := by
 have h1 := zN3 hm.nk he
 rw [h] at h1
 cases hr : runI js e.2.1 with
 | none => rw [hr] at h1; cases h1
 | some k =>
  obtain ⟨j, hj, h2, h3⟩ := zU1 hr
  rw [hr] at h1
  simp only [Option.bind_some] at h1
  rw [hj] at h1
  simp only [Option.map_some, Option.some.injEq] at h1
  exact ⟨k, j, rfl, hj, h2, h3, h1⟩
theorem RunOk.len {js : List Jb} {rl : List (Nat × List UInt8 × List UInt8)} (h : RunOk js rl) {ck : Nat} (hm : MapOk rl ck) : rl.length ≤ js.length := by
 have hn : (rl.map fun e => (runI js e.2.1).getD 0).Nodup := by
  have h1 : rl.Pairwise fun a b => a.2.1 ≠ b.2.1 := List.pairwise_map.1 hm.nk
  refine List.pairwise_map.2 (List.Pairwise.imp_of_mem (fun {a b} ha hb hne e => ?_) h1)
  obtain ⟨k, j, g1, g2, g3, _⟩ := h.key hm ha
  obtain ⟨k2, j2, q1, q2, q3, _⟩ := h.key hm hb
  rw [g1, q1] at e
  simp only [Option.getD_some] at e
  subst e
  rw [g2] at q2
  injection q2 with q2
  subst q2
  exact hne (g3.symm.trans q3)
 have := nodup_below (n := js.length) hn fun x hx => by
  obtain ⟨e, he, rfl⟩ := List.mem_map.1 hx
  obtain ⟨k, j, g1, g2, _⟩ := h.key hm he
  rw [g1]
  exact (List.getElem?_eq_some_iff.1 g2).1
 rwa [List.length_map] at this
end Go.Proofs.YtcdeonjdipcgpaaGreatDoor
namespace Go.Proofs.YtcdeonjdipcgpaaGreatDoor
open Go Go.RowKit
theorem perm_vals {l : List (Nat × List UInt8 × List UInt8)} (hn : (l.map (·.2.1)).Nodup) : (l.map (·.2.1)).map (valP l) = l.map (·.2) := by
 rw [List.map_map]
 refine List.map_congr_left fun e he => ?_
 show valP l e.2.1 = e.2
 unfold valP
 rw [zN3 hn he]
 rfl
theorem srtP_perm {l : List (Nat × List UInt8 × List UInt8)} (hn : (l.map (·.2.1)).Nodup) : (srtP l).Perm (l.map (·.2)) := by
 rw [← perm_vals hn]
 exact (List.mergeSort_perm _ _).map _
end Go.Proofs.YtcdeonjdipcgpaaGreatDoor
-- NEWM
namespace Go.Proofs.YtcdeonjdipcgpaaGreatDoor
open Go Go.RowKit
set_option maxRecDepth 100000
theorem bkK_ok {l : List Nt} (hl : ∀ x ∈ l, ntF x = 0) (ix : List Int) : ∀ k, BkOk (bkK l ix k).1 k
 | 0 => .zero
 | k + 1 => by
  have h := bkK_ok hl ix k
  rw [bkK]
  split
  ·split
   ·rename_i x hx
    unfold bkStep
    split
    ·exact h.more
    ·rename_i hr
     exact h.next (hl x (List.mem_of_getElem? hx)) (Decidable.not_not.1 hr)
   ·exact h.more
  ·exact h.more
theorem BkOk.le {b : Bk} {k n : Nat} (h : BkOk b k) (hk : k ≤ n) : BkOk b n := ⟨h.js, h.sp, h.lf, h.us, h.l, fun s => ⟨(h.u s).1, by have := (h.u s).2; omega⟩⟩
theorem cntP_len (at_ : Int) (l : List Nt) : (cntP at_ l).length ≤ l.length := by
 have := zQ3 at_ l l.length (Nat.le_refl _)
 unfold cntP
 rw [List.length_reverse]
 omega
theorem bksF_ok {l : List Nt} (at_ : Int) (h : chkN l = 0) : BkOk (bksF l (cntP at_ l)).1 2000 := by
 obtain ⟨h1, h2⟩ := zp1 h
 have := cntP_len at_ l
 exact (bkK_ok h2 _ _).le (by omega)
def keyE (s : List UInt8) : Int := if keyB s = true then 0 else 5
theorem usd_ok {l : List Nt} {s : List UInt8} {at_ : Int} (h : (if askF l at_ ≠ 0 then askF l at_ else keyE s) = 0) : usdF l s at_ = ((mget (bksF l (cntP at_ l)).1.us s).getD 0, 0) := by
 unfold usdF keyE at *
 by_cases ha : askF l at_ ≠ 0
 ·rw [if_pos ha] at h; exact absurd h ha
 ·rw [if_neg ha] at h
  rw [if_neg ha]
  cases hk : keyB s with
  | true => rfl
  | false => rw [hk] at h; cases h
end Go.Proofs.YtcdeonjdipcgpaaGreatDoor
namespace Go.Proofs.YtcdeonjdipcgpaaGreatDoor
open Go Go.RowKit
theorem ntF_at {x : Nt} (h : ntF x = 0) : 0 ≤ x.at_ ∧ x.at_ ≤ 345686399999 := by
 unfold ntF at h
 split at h
 ·cases h
 split at h
 ·cases h
 rename_i h2
 clear h
 simp only [not_or, moB, Bool.not_eq_false', Bool.not_eq_true, outB, Bool.or_eq_false_iff, decide_eq_false_iff_not] at h2
 omega
theorem zK1 {α : Type} {f : α → α} {l : List α} {k : Nat} {x : α} (h : x ∈ l.modify k f) : x ∈ l ∨ ∃ y, l[k]? = some y ∧ x = f y := by
 obtain ⟨i, hi⟩ := List.mem_iff_getElem?.1 h
 rw [List.getElem?_modify] at hi
 cases hy : l[i]? with
 | none => rw [hy] at hi; simp at hi
 | some y =>
  rw [hy] at hi
  by_cases hk : k = i
  ·subst hk
   simp at hi
   exact .inr ⟨y, hy, hi.symm⟩
  ·simp [hk] at hi
   exact .inl (hi ▸ List.mem_of_getElem? hy)
structure JkOk (js : List Jb) (t : Int) : Prop where
 key : ∀ j ∈ js, keyB j.nm = true
 fin : ∀ j ∈ js, j.st = 1 → (j.ly.length : Int) = j.all
 tim : ∀ j ∈ js, 0 ≤ j.beg ∧ j.beg ≤ t ∧ ∀ m ∈ j.ly, j.beg ≤ m ∧ m ≤ t
theorem JkOk.nil {t : Int} : JkOk [] t := ⟨fun j h => (by cases h), fun j h => (by cases h), fun j h => (by cases h)⟩
theorem JkOk.mono {js : List Jb} {t u : Int} (h : JkOk js t) (hu : t ≤ u) : JkOk js u := ⟨h.key, h.fin, fun j hj => ⟨(h.tim j hj).1, by have := (h.tim j hj).2.1; omega, fun m hm => ⟨((h.tim j hj).2.2 m hm).1, by have := ((h.tim j hj).2.2 m hm).2; omega⟩⟩⟩
theorem JkOk.lay {js : List Jb} {t : Int} (h : JkOk js t) (p : List UInt8) : JkOk (layJ js p t) t := by
 unfold layJ
 split
 ·rename_i k hk
  obtain ⟨j0, hj0, _, hs0⟩ := zU1 hk
  refine ⟨fun j hj => ?_, fun j hj hs => ?_, fun j hj => ?_⟩
  ·rcases zK1 hj with hj | ⟨y, hy, rfl⟩
   ·exact h.key j hj
   ·exact h.key y (List.mem_of_getElem? hy)
  ·rcases zK1 hj with hj | ⟨y, hy, rfl⟩
   ·exact h.fin j hj hs
   ·rw [hj0] at hy
    injection hy with hy
    subst hy
    rw [hs0] at hs
    cases hs
  ·rcases zK1 hj with hj | ⟨y, hy, rfl⟩
   ·exact h.tim j hj
   ·have h1 := h.tim y (List.mem_of_getElem? hy)
    refine ⟨h1.1, h1.2.1, fun m hm => ?_⟩
    rcases List.mem_append.1 hm with hm | hm
    ·exact h1.2.2 m hm
    ·rw [List.mem_singleton] at hm
     subst hm
     exact ⟨h1.2.1, Int.le_refl _⟩
 ·exact h
theorem JkOk.stop {js : List Jb} {t s u : Int} {p : List UInt8} (h : JkOk js t) (hs : s = 1 → ∀ k j, runI js p = some k → js[k]? = some j → (j.ly.length : Int) = j.all) : JkOk (stopJ js p s u) t := by
 unfold stopJ
 split
 ·rename_i k hk
  refine ⟨fun j hj => ?_, fun j hj hs1 => ?_, fun j hj => ?_⟩
  ·rcases zK1 hj with hj | ⟨y, hy, rfl⟩
   ·exact h.key j hj
   ·exact h.key y (List.mem_of_getElem? hy)
  ·rcases zK1 hj with hj | ⟨y, hy, rfl⟩
   ·exact h.fin j hj hs1
   ·exact hs hs1 k y hk hy
  ·rcases zK1 hj with hj | ⟨y, hy, rfl⟩
   ·exact h.tim j hj
   ·exact h.tim y (List.mem_of_getElem? hy)
 ·exact h
theorem JkOk.next {b : Bk} {x : Nt} (h : JkOk b.js x.at_) (hJ : JsOk b.js) (hx : ntF x = 0) (hr : rfE b x = 0) : JkOk (ntS b x).js x.at_ := by
 have hat := ntF_at hx
 unfold ntS
 unfold rfE at hr
 by_cases h1 : x.kd = 1
 ·rw [if_pos h1]
  have hk := (ntF_pr hx).2 h1
  refine ⟨fun j hj => ?_, fun j hj hs => ?_, fun j hj => ?_⟩
  ·rcases List.mem_append.1 hj with hj | hj
   ·exact h.key j hj
   ·rw [List.mem_singleton] at hj; subst hj; exact hk
  ·rcases List.mem_append.1 hj with hj | hj
   ·exact h.fin j hj hs
   ·rw [List.mem_singleton] at hj; subst hj; cases hs
  ·rcases List.mem_append.1 hj with hj | hj
   ·exact h.tim j hj
   ·rw [List.mem_singleton] at hj; subst hj; exact ⟨hat.1, Int.le_refl _, fun m hm => (by cases hm)⟩
 rw [if_neg h1] at hr ⊢
 by_cases h2 : x.kd = 2
 ·rw [if_pos h2]; exact h.lay _
 rw [if_neg h2] at hr ⊢
 by_cases h3 : x.kd = 3
 ·rw [if_pos h3] at hr ⊢
  refine h.stop fun _ k j hk hj => ?_
  rw [runJ_at hk hj] at hr
  simp only at hr
  have h4 := (hJ.all j (List.mem_of_getElem? hj)).1
  split at hr
  ·cases hr
  ·omega
 rw [if_neg h3] at hr ⊢
 by_cases h4 : x.kd = 4
 ·rw [if_pos h4]; exact h.stop fun h => (by cases h)
 rw [if_neg h4]
 by_cases h5 : x.kd = 5
 ·rw [if_pos h5]; exact h
 rw [if_neg h5]
 by_cases h6 : x.kd = 6
 ·rw [if_pos h6]; exact h
 rw [if_neg h6]; exact h
end Go.Proofs.YtcdeonjdipcgpaaGreatDoor
