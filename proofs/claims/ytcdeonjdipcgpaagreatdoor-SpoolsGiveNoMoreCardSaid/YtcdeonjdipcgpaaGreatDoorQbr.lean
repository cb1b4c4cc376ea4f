/- strings.Builder, by value. -/
import Derived.Test.YtcdeonjdipcgpaaGreatDoorQbp
import Derived.Test.YtcdeonjdipcgpaaGreatDoorQbq
import Derived.Test.YtcdeonjdipcgpaaGreatDoorQat
import Derived.Shelf.Strconv.Atoi
import Derived.Test.YtcdeonjdipcgpaaGreatDoorProg
import Derived.Test.YtcdeonjdipcgpaaGreatDoorQau
import Derived.Test.YtcdeonjdipcgpaaGreatDoorQaz
import Derived.Test.YtcdeonjdipcgpaaGreatDoorQba
import Derived.Test.YtcdeonjdipcgpaaGreatDoorQan
import Derived.Lib.UnsafeStr
import Derived.Laws.Pointers
import Derived.LaidEqlPtr
import Derived.Laws.LoneSync
set_option linter.unusedSimpArgs false
set_option linter.unusedVariables false
namespace Go.Proofs.YtcdeonjdipcgpaaGreatDoor
open Go Go.Shelf Go.RowKit
set_option maxRecDepth 100000
def atoiL_ren : Go.Shelf.Ren := ⟨fun | 172 => 49 | 244 => 101 | 245 => 102 | 247 => 155 | 279 => 156 | 280 => 157 | 281 => 158 | 282 => 159 | 287 => 225 | 316 => 226 | 171 => 59 | 205 => 227 | 321 => 280 | 322 => 281 | 243 => 109 | 246 => 166 | 283 => 231 | 284 => 232 | 285 => 233 | 286 => 234 | 129 => 210 | 317 => 292 | 318 => 293 | 319 => 294 | 320 => 295 | 337 => 329 | 338 => 330 | n => n, fun | 9 => 9 | 3 => 3 | 75 => 86 | 76 => 87 | 4 => 4 | 5 => 5 | 167 => 227 | 37 => 164 | 0 => 0 | 85 => 228 | 2 => 2 | 168 => 230 | 53 => 265 | 175 => 291 | 46 => 210 | 210 => 294 | 127 => 223 | 145 => 358 | 143 => 356 | 21 => 21 | 171 => 298 | 173 => 300 | 212 => 365 | 51 => 262 | 20 => 20 | 213 => 366 | 232 => 417 | 233 => 418 | 80 => 67 | n => n, fun | 15 => 1 | 16 => 2 | 17 => 3 | 18 => 6 | 19 => 7 | n => n⟩
theorem atoiL : Go.Proofs.Lays.n172 Tryz.prog atoiL_ren := {
 mixed := by kernel_rfl
 f129 := Tryz.func210.trans (congrArg some (by kernel_rfl))
 f171 := Tryz.func59.trans (congrArg some (by kernel_rfl))
 f172 := Tryz.func49.trans (congrArg some (by kernel_rfl))
 f205 := Tryz.func227.trans (congrArg some (by kernel_rfl))
 f243 := Tryz.func109.trans (congrArg some (by kernel_rfl))
 f244 := Tryz.func101.trans (congrArg some (by kernel_rfl))
 f245 := Tryz.func102.trans (congrArg some (by kernel_rfl))
 f246 := Tryz.func166.trans (congrArg some (by kernel_rfl))
 f247 := Tryz.func155.trans (congrArg some (by kernel_rfl))
 f279 := Tryz.func156.trans (congrArg some (by kernel_rfl))
 f280 := Tryz.func157.trans (congrArg some (by kernel_rfl))
 f281 := Tryz.func158.trans (congrArg some (by kernel_rfl))
 f282 := Tryz.func159.trans (congrArg some (by kernel_rfl))
 f283 := Tryz.func231.trans (congrArg some (by kernel_rfl))
 f284 := Tryz.func232.trans (congrArg some (by kernel_rfl))
 f285 := Tryz.func233.trans (congrArg some (by kernel_rfl))
 f286 := Tryz.func234.trans (congrArg some (by kernel_rfl))
 f287 := Tryz.func225.trans (congrArg some (by kernel_rfl))
 f316 := Tryz.func226.trans (congrArg some (by kernel_rfl))
 f317 := Tryz.func292.trans (congrArg some (by kernel_rfl))
 f318 := Tryz.func293.trans (congrArg some (by kernel_rfl))
 f319 := Tryz.func294.trans (congrArg some (by kernel_rfl))
 f320 := Tryz.func295.trans (congrArg some (by kernel_rfl))
 f321 := Tryz.func280.trans (congrArg some (by kernel_rfl))
 f322 := Tryz.func281.trans (congrArg some (by kernel_rfl))
 f337 := Tryz.func329.trans (congrArg some (by kernel_rfl))
 f338 := Tryz.func330.trans (congrArg some (by kernel_rfl))
 t0 := Tryz.underlying0
 a0 := Tryz.isAgg0
 z0 := Tryz.sizeOf0
 v0 := Tryz.zeroValue0
 t2 := Tryz.underlying2
 a2 := Tryz.isAgg2
 z2 := Tryz.sizeOf2
 v2 := Tryz.zeroValue2
 t3 := Tryz.underlying3
 a3 := Tryz.isAgg3
 z3 := Tryz.sizeOf3
 v3 := Tryz.zeroValue3
 t4 := Tryz.underlying4
 a4 := Tryz.isAgg4
 z4 := Tryz.sizeOf4
 v4 := Tryz.zeroValue4
 t5 := Tryz.underlying5
 a5 := Tryz.isAgg5
 z5 := Tryz.sizeOf5
 v5 := Tryz.zeroValue5
 t9 := Tryz.underlying9
 a9 := Tryz.isAgg9
 z9 := Tryz.sizeOf9
 v9 := Tryz.zeroValue9
 t20 := Tryz.underlying20
 a20 := Tryz.isAgg20
 z20 := Tryz.sizeOf20
 v20 := Tryz.zeroValue20
 t21 := Tryz.underlying21
 a21 := Tryz.isAgg21
 z21 := Tryz.sizeOf21
 v21 := Tryz.zeroValue21
 t37 := Tryz.underlying164
 a37 := Tryz.isAgg164
 z37 := Tryz.sizeOf164
 v37 := Tryz.zeroValue164
 t46 := Tryz.underlying210
 a46 := Tryz.isAgg210
 z46 := Tryz.sizeOf210
 v46 := Tryz.zeroValue210
 t51 := Tryz.underlying262
 a51 := Tryz.isAgg262
 z51 := Tryz.sizeOf262
 v51 := Tryz.zeroValue262
 t53 := Tryz.underlying265
 a53 := Tryz.isAgg265
 z53 := Tryz.sizeOf265
 v53 := Tryz.zeroValue265
 t75 := Tryz.underlying86
 a75 := Tryz.isAgg86
 z75 := Tryz.sizeOf86
 v75 := Tryz.zeroValue86
 t76 := Tryz.underlying87
 a76 := Tryz.isAgg87
 z76 := Tryz.sizeOf87
 v76 := Tryz.zeroValue87
 t85 := Tryz.underlying228
 a85 := Tryz.isAgg228
 z85 := Tryz.sizeOf228
 v85 := Tryz.zeroValue228
 t127 := Tryz.underlying223
 a127 := Tryz.isAgg223
 z127 := Tryz.sizeOf223
 v127 := Tryz.zeroValue223
 t143 := Tryz.underlying356
 a143 := Tryz.isAgg356
 z143 := Tryz.sizeOf356
 v143 := Tryz.zeroValue356
 t145 := Tryz.underlying358
 a145 := Tryz.isAgg358
 z145 := Tryz.sizeOf358
 v145 := Tryz.zeroValue358
 t167 := Tryz.underlying227
 a167 := Tryz.isAgg227
 z167 := Tryz.sizeOf227
 v167 := Tryz.zeroValue227
 t168 := Tryz.underlying230
 a168 := Tryz.isAgg230
 z168 := Tryz.sizeOf230
 v168 := Tryz.zeroValue230
 t171 := Tryz.underlying298
 a171 := Tryz.isAgg298
 z171 := Tryz.sizeOf298
 v171 := Tryz.zeroValue298
 t173 := Tryz.underlying300
 a173 := Tryz.isAgg300
 z173 := Tryz.sizeOf300
 v173 := Tryz.zeroValue300
 t175 := Tryz.underlying291
 a175 := Tryz.isAgg291
 z175 := Tryz.sizeOf291
 v175 := Tryz.zeroValue291
 t210 := Tryz.underlying294
 a210 := Tryz.isAgg294
 z210 := Tryz.sizeOf294
 v210 := Tryz.zeroValue294
 t212 := Tryz.underlying365
 a212 := Tryz.isAgg365
 z212 := Tryz.sizeOf365
 v212 := Tryz.zeroValue365
 t213 := Tryz.underlying366
 a213 := Tryz.isAgg366
 z213 := Tryz.sizeOf366
 t232 := Tryz.underlying417
 a232 := Tryz.isAgg417
 z232 := Tryz.sizeOf417
 v232 := Tryz.zeroValue417
 t233 := Tryz.underlying418
 a233 := Tryz.isAgg418
 z233 := Tryz.sizeOf418
 v233 := Tryz.zeroValue418
 g15 := by kernel_rfl
 g16 := by kernel_rfl
 g17 := by kernel_rfl
 g18 := by kernel_rfl
 g19 := by kernel_rfl }
theorem acalls_flat {P : Program} {f : FuncId} {args : List AV} {u : AV} {v : Value} (hu : ∀ w S ρ H, WF w S ρ H u ∧ u.den ρ H = v) (h : ∀ ρ w, Calls P f (args.map (AV.den ρ [])).toArray w fun e w' => e = .returned v ∧ w'.os = w.os ∧ w'.tape = w.tape ∧ w'.output = w.output ∧ w.heap.size ≤ w'.heap.size ∧ ∀ b, b < w.heap.size → w'.heap[b]? = w.heap[b]?) : ACalls P f args [] fun u' H => u' = u ∧ H = [] := fun S ρ w hR hW => by
 refine (calls_drawn (fun e w' hq => ⟨v, hq.1⟩) (h ρ w)).mono ?_
 rintro e w' ⟨⟨rfl, h1, h2, h3, h4, h5⟩, hd⟩
 refine ⟨u, [], ρ, S, by rw [(hu w' S ρ []).2], ⟨rfl, rfl⟩, (hu w' S ρ []).1, ⟨hR.len, hR.nd, hR.ap, fun i B h => Nat.lt_of_lt_of_le (hR.lt i B h) h4, fun b hb => Nat.lt_of_lt_of_le (hR.sS b hb) h4, fun i o h => by simp at h, PL.none fun _ _ _ => zJ2⟩, ⟨h1, h2, h3, h4, fun b hb _ => h5 b hb, hd⟩, fun b hb => .inl hb, fun i B hi => ?_, fun i k' B hi => absurd hi zJ2, fun i hi => by simp at hi, fun h => by cases h⟩
 have hr0 : ρ = [] := List.eq_nil_of_length_eq_zero hR.len
 subst hr0
 cases hi
theorem atoi_v (s : List UInt8) (n : Int) (hl : s.length ≤ 18) (h : Lib.atoi s = some n) : ACalls Tryz.prog 49 [.c (T s)] [] fun u H => u = .t [.c (I n), .c (.s .nilIface)] ∧ H = [] :=
 acalls_flat (v := .tuple #[.int .i64 n, .nilIface]) (fun w S ρ H => ⟨.t fun x hx => by
  simp only [List.mem_cons, List.not_mem_nil, or_false] at hx
  rcases hx with rfl | rfl
  ·exact .c (.s _)
  ·exact .c (.s _), rfl⟩) fun ρ w => (Any.strconv_Atoi atoiL (bst s) n (by show s.toArray.size ≤ 18; simpa using hl) (by show Lib.atoi s.toArray.toList = some n; simpa using h) w).mono (by
  rintro e w' ⟨rfl, t, rfl⟩
  exact ⟨rfl, rfl, rfl, rfl, by rw [Lib.bytesWorld_size]; omega, fun b h => Lib.bytesWorld_at_old w _ t b h⟩)
end Go.Proofs.YtcdeonjdipcgpaaGreatDoor
-- NEWM
namespace Go.Proofs.YtcdeonjdipcgpaaGreatDoor
open Go Go.RowKit
set_option maxRecDepth 100000
theorem idxB_app {c : UInt8} : ∀ {a b : List UInt8} {i : Nat}, c ∉ a → idxB c (a ++ c :: b) i = ((i + a.length : Nat) : Int)
 | [], b, i, _ => by simp [idxB]
 | x :: a, b, i, h => by
  have hx : ¬ x = c := fun e => h (e ▸ List.mem_cons_self)
  have ha : c ∉ a := fun e => h (List.mem_cons_of_mem _ e)
  rw [List.cons_append, idxB]
  have h2 := idxB_app (b := b) (i := i + 1) ha
  simp only [hx, if_false]
  rw [h2, List.length_cons]
  congr 1
  omega
theorem cut0_yes (a b : List UInt8) (c : UInt8) (h : c ∉ a) (hl : a.length + b.length ≤ 1000000000) : ACalls Tryz.prog 100 [.c (T (a ++ c :: b)), .c (T [c])] [] fun u H => u = .t [.c (T a), .c (T b), .c (B true)] ∧ H = [] := by
 have hix : idxB c (a ++ c :: b) 0 = (a.length : Int) := by rw [idxB_app h, Nat.zero_add]
 have hw : wrap64 ((a.length : Int) + (([c] : List UInt8).length : Int)) = ((a.length + 1 : Nat) : Int) := by
  have e : (([c] : List UInt8).length : Int) = 1 := rfl
  rw [e]
  exact (Zwr (by omega)).trans (by omega)
 have e1 : (List.take a.length (a ++ c :: b)).drop 0 = a := by simp
 have e2 : (List.take (a ++ c :: b).length (a ++ c :: b)).drop (a.length + 1) = b := by
  rw [List.take_length, ← List.drop_drop]
  simp
 refine zg (N := 23) Tryz.func100 rfl rfl (by simp) fun E hE => ?_
 refine WA ?_
 refine WR ?_
 refine zh rfl (zc false (fun _ => ix1_v _ c) rfl .fn rfl (by decide) (by kernel_rfl) rfl (fun _ => C0 rfl) (by simp)) ?_
 rintro _ _ ⟨_, _, _, ⟨rfl, rfl⟩, hF, hH⟩
 (refine NST hF hH ?_; clear hF hH; rintro rfl rfl)
 refine WE ?_
 rw [hix]
 refine WA ?_
 refine zb rfl ?_
 refine ZZ ?_
 refine ze [(0, none), (1, none), (2, none), (3, none), (4, none), (5, none), (6, none), (7, none), (8, none), (9, none), (10, none), (11, none)] zw (by kernel_rfl) ?_
 iterate 2 refine WX2 ?_
 refine ZT rfl (zq4 (i := 0) (j := a.length) rfl Tryz.underlying9 rfl (.inl ⟨rfl, rfl⟩) (.inr ⟨_, _, _, rfl, rfl, rfl⟩) (by omega) (by simp)) ?_
 iterate 5 refine WX2 ?_
 refine ZT rfl (zq4 (i := a.length + 1) (j := (a ++ c :: b).length) rfl Tryz.underlying9 rfl (.inr ⟨_, _, _, rfl, rfl, hw⟩) (.inl ⟨rfl, rfl⟩) (by simp) (Nat.le_refl _)) ?_
 refine WQ ?_
 rw [e1, e2]
 exact zx1 (us := [.c (T a), .c (T b), .c (B true)]) [] (fun _ => .t [.c (T a), .c (T b), .c (B true)]) (fun _ => []) (.tmp rfl (.tmp rfl (.tmp rfl .nil))) (by decide) (ZNK rfl) (fun _ => .tL (.cons (.c rfl) (.cons (.c rfl) (.cons (.c rfl) .nil)))) ZCH (fun _ => ⟨rfl, rfl⟩)
theorem cut_yes (a b : List UInt8) (c : UInt8) (h : c ∉ a) (hl : a.length + b.length ≤ 1000000000) : ACalls Tryz.prog 48 [.c (T (a ++ c :: b)), .c (T [c])] [] fun u H => u = .t [.c (T a), .c (T b), .c (B true)] ∧ H = [] := by
 refine zg (N := 13) Tryz.func48 rfl rfl (by simp) fun E hE => ?_
 refine WA ?_
 refine WR ?_
 refine zh rfl (zc false (fun _ => cut0_yes a b c h hl) rfl .fn rfl (by decide) (by kernel_rfl) rfl (fun _ => C0 rfl) (by simp)) ?_
 rintro _ _ ⟨_, _, _, ⟨rfl, rfl⟩, hF, hH⟩
 (refine NST hF hH ?_; clear hF hH; rintro rfl rfl)
 refine WE ?_
 exact zx1 (us := [.c (T a), .c (T b), .c (B true)]) [] (fun _ => .t [.c (T a), .c (T b), .c (B true)]) (fun _ => []) (.tmp rfl (.tmp rfl (.tmp rfl .nil))) (by decide) (ZNK rfl) (fun _ => .tL (.cons (.c rfl) (.cons (.c rfl) (.cons (.c rfl) .nil)))) ZCH (fun _ => ⟨rfl, rfl⟩)
theorem ix2_v (s : List UInt8) (x y : UInt8) (hl : s.length ≤ 2) : ACalls Tryz.prog 154 [.c (T s), .c (T [x, y])] [] fun u H => u = .c (I (if [x, y] = s then 0 else -1)) ∧ H = [] := by
 refine zg (N := 143) Tryz.func154 rfl rfl (by simp) fun E hE => ?_
 have h1 : (([x, y] : List UInt8).length : Int) = 2 := rfl
 by_cases hq : [x, y] = s
 ·rw [if_pos hq]
  refine WA ?_
  refine WA ?_
  refine ZR ?_
  iterate 5 refine WX1 ?_
  first | refine ZP (zc1 (a := [x, y]) (b := s) (decide_eq_true hq) rfl Tryz.underlying9 rfl rfl) ?_ | refine ZS ?_
  refine WE ?_
  refine zb rfl ?_
  refine ZZ ?_
  refine WA ?_
  exact zf [] _ rfl rfl rfl (by decide) (ZNK rfl) (fun _ => .nil) ⟨rfl, rfl⟩
 ·rw [if_neg hq]
  have hls : (2 : Int) ≥ s.length := by omega
  refine WA ?_
  refine WA ?_
  refine ZR ?_
  iterate 5 refine WX1 ?_
  first | refine ZP (zc1 (a := [x, y]) (b := s) (decide_eq_false hq) rfl Tryz.underlying9 rfl rfl) ?_ | refine ZS ?_
  refine WE ?_
  refine za rfl ?_
  refine ZZ ?_
  refine WA ?_
  refine za rfl ?_
  refine ZZ ?_
  refine WA ?_
  refine zb rfl ?_
  refine ZZ ?_
  refine WA ?_
  exact zf [] _ rfl rfl rfl (by decide) (ZNK rfl) (fun _ => .nil) ⟨rfl, rfl⟩
theorem sindex2_v (s : List UInt8) (x y : UInt8) (hl : s.length ≤ 2) : ACalls Tryz.prog 103 [.c (T s), .c (T [x, y])] [] fun u H => u = .c (I (if [x, y] = s then 0 else -1)) ∧ H = [] := by
 refine zg (N := 8) Tryz.func103 rfl rfl (by simp) fun E hE => ?_
 repeat' (first
  | (with_reducible refine zE ?_) | (with_reducible refine zC ?_) | (with_reducible refine zH ?_) | (with_reducible refine zM ?_) | (with_reducible refine zK ?_) | (with_reducible refine zO ?_) | (with_reducible refine zL rfl ?_) | (with_reducible refine zI ?_) | (with_reducible refine zr ?_) | (with_reducible refine zk ?_) | (with_reducible refine zF ?_) | (with_reducible refine zu ?_)
  | refine zb rfl ?_ | refine za rfl ?_ | refine zt rfl (by assumption) ?_ | refine zq rfl (by assumption) ?_ | refine zz rfl (fun _ => ?_) (fun _ => ?_) | refine zm rfl (fun _ => ?_) (fun _ => ?_)
  | (refine zd (id := 1) ?_
     refine WO ?_
     refine zh rfl (zc false (fun _ => ix2_v s x y hl) rfl .fn rfl (by decide) (by kernel_rfl) rfl (fun _ => C0 rfl) (by simp)) ?_
     rintro _ _ ⟨_, _, _, ⟨rfl, rfl⟩, hF, hH⟩
     (refine NST hF hH ?_; clear hF hH; rintro rfl rfl)
     refine WE ?_)
  | (refine zd ?_; refine WE ?_))
 exact zf [] _ rfl rfl rfl (by decide) (ZNK rfl) (fun _ => .nil) ⟨rfl, rfl⟩
theorem contains2_v (s : List UInt8) (x y : UInt8) (hl : s.length ≤ 2) : ACalls Tryz.prog 50 [.c (T s), .c (T [x, y])] [] fun u H => u = .c (B (decide ([x, y] = s))) ∧ H = [] := by
 have hsi := sindex2_v s x y hl
 by_cases hq : [x, y] = s
 ·rw [if_pos hq] at hsi
  rw [decide_eq_true hq]
  refine zg (N := 9) Tryz.func50 rfl rfl (by simp) fun E hE => ?_
  repeat' (first
   | (with_reducible refine zE ?_) | (with_reducible refine zC ?_) | (with_reducible refine zH ?_) | (with_reducible refine zM ?_) | (with_reducible refine zK ?_) | (with_reducible refine zO ?_) | (with_reducible refine zL rfl ?_) | (with_reducible refine zI ?_) | (with_reducible refine zr ?_) | (with_reducible refine zk ?_) | (with_reducible refine zF ?_) | (with_reducible refine zu ?_)
   | refine zb rfl ?_ | refine za rfl ?_ | refine zt rfl (by assumption) ?_ | refine zq rfl (by assumption) ?_ | refine zz rfl (fun _ => ?_) (fun _ => ?_) | refine zm rfl (fun _ => ?_) (fun _ => ?_)
   | (refine zd (id := 1) ?_
      refine WO ?_
      refine zh rfl (zc false (fun _ => hsi) rfl .fn rfl (by decide) (by kernel_rfl) rfl (fun _ => C0 rfl) (by simp)) ?_
      rintro _ _ ⟨_, _, _, ⟨rfl, rfl⟩, hF, hH⟩
      (refine NST hF hH ?_; clear hF hH; rintro rfl rfl)
      refine WE ?_)
   | (refine zd ?_; refine WE ?_))
  exact zf [] _ rfl rfl rfl (by decide) (ZNK rfl) (fun _ => .nil) ⟨rfl, rfl⟩
 ·rw [if_neg hq] at hsi
  rw [decide_eq_false hq]
  refine zg (N := 9) Tryz.func50 rfl rfl (by simp) fun E hE => ?_
  repeat' (first
   | (with_reducible refine zE ?_) | (with_reducible refine zC ?_) | (with_reducible refine zH ?_) | (with_reducible refine zM ?_) | (with_reducible refine zK ?_) | (with_reducible refine zO ?_) | (with_reducible refine zL rfl ?_) | (with_reducible refine zI ?_) | (with_reducible refine zr ?_) | (with_reducible refine zk ?_) | (with_reducible refine zF ?_) | (with_reducible refine zu ?_)
   | refine zb rfl ?_ | refine za rfl ?_ | refine zt rfl (by assumption) ?_ | refine zq rfl (by assumption) ?_ | refine zz rfl (fun _ => ?_) (fun _ => ?_) | refine zm rfl (fun _ => ?_) (fun _ => ?_)
   | (refine zd (id := 1) ?_
      refine WO ?_
      refine zh rfl (zc false (fun _ => hsi) rfl .fn rfl (by decide) (by kernel_rfl) rfl (fun _ => C0 rfl) (by simp)) ?_
      rintro _ _ ⟨_, _, _, ⟨rfl, rfl⟩, hF, hH⟩
      (refine NST hF hH ?_; clear hF hH; rintro rfl rfl)
      refine WE ?_)
   | (refine zd ?_; refine WE ?_))
  exact zf [] _ rfl rfl rfl (by decide) (ZNK rfl) (fun _ => .nil) ⟨rfl, rfl⟩
end Go.Proofs.YtcdeonjdipcgpaaGreatDoor
namespace Go.Proofs.YtcdeonjdipcgpaaGreatDoor
open Go Go.RowKit
structure Jb where
 nm : List UInt8
 pr : List UInt8
 st : Int
 ly : List Int
 all : Int
 beg : Int
 en : Int
structure Bk where
 js : List Jb
 sp : List (Nat × List UInt8 × List UInt8)
 spk : Nat
 lf : List (Nat × List UInt8 × Int)
 lfk : Nat
 us : List (Nat × List UInt8 × Int)
 usk : Nat
def fndI {α : Type} (p : α → Bool) : List α → Nat → Option Nat
 | [], _ => none
 | x :: l, i => if p x = true then some i else fndI p l (i + 1)
theorem zy2 {α : Type} {p : α → Bool} : ∀ {l : List α} {i k : Nat}, fndI p l i = some k → i ≤ k ∧ ∃ x, l[k - i]? = some x ∧ p x = true
 | [], _, _, h => by cases h
 | x :: l, i, k, h => by
  rw [fndI] at h
  split at h
  ·rename_i hp
   injection h with h
   subst h
   exact ⟨Nat.le_refl _, x, by simp, hp⟩
  ·obtain ⟨h1, y, h2, h3⟩ := zy2 h
   exact ⟨by omega, y, by rw [show k - i = (k - (i + 1)) + 1 by omega, List.getElem?_cons_succ]; exact h2, h3⟩
theorem zh4 {α : Type} {p : α → Bool} : ∀ {l : List α} {i : Nat}, fndI p l i = none → ∀ x ∈ l, p x = false
 | [], _, _, x, hx => by cases hx
 | y :: l, i, h, x, hx => by
  rw [fndI] at h
  split at h
  ·cases h
  ·rename_i hp
   rcases List.mem_cons.1 hx with rfl | hx
   ·simpa using hp
   ·exact zh4 h x hx
theorem fndI_is {α : Type} {p : α → Bool} {l : List α} {k : Nat} {x : α} (h1 : l[k]? = some x) (h2 : p x = true) (hu : ∀ i y, l[i]? = some y → p y = true → i = k) : fndI p l 0 = some k := by
 cases h : fndI p l 0 with
 | none => rw [zh4 h x (List.mem_of_getElem? h1)] at h2; cases h2
 | some q =>
  obtain ⟨_, y, h3, h4⟩ := zy2 h
  rw [hu q y (by simpa using h3) h4]
theorem fndI_no {α : Type} {p : α → Bool} {l : List α} (h : ∀ x ∈ l, p x = false) : fndI p l 0 = none := by
 cases hq : fndI p l 0 with
 | none => rfl
 | some q =>
  obtain ⟨_, y, h3, h4⟩ := zy2 hq
  rw [h y (List.mem_of_getElem? h3)] at h4
  cases h4
def runI (js : List Jb) (p : List UInt8) : Option Nat := fndI (fun j => decide (j.pr = p) && decide (j.st = 0)) js 0
def nmI (js : List Jb) (s : List UInt8) : Option Nat := fndI (fun j => decide (s = j.nm)) js 0
def runJ (js : List Jb) (p : List UInt8) : Option Jb := (runI js p).bind fun k => js[k]?
theorem zU1 {js : List Jb} {p : List UInt8} {k : Nat} (h : runI js p = some k) : ∃ j, js[k]? = some j ∧ j.pr = p ∧ j.st = 0 := by
 obtain ⟨_, j, h1, h2⟩ := zy2 h
 simp only [Bool.and_eq_true, decide_eq_true_eq] at h2
 exact ⟨j, by simpa using h1, h2.1, h2.2⟩
theorem nmI_some {js : List Jb} {s : List UInt8} {k : Nat} (h : nmI js s = some k) : ∃ j, js[k]? = some j ∧ s = j.nm := by
 obtain ⟨_, j, h1, h2⟩ := zy2 h
 exact ⟨j, by simpa using h1, of_decide_eq_true h2⟩
theorem nmI_none {js : List Jb} {s : List UInt8} (h : nmI js s = none) : ∀ j ∈ js, s ≠ j.nm := fun j hj => of_decide_eq_false (zh4 h j hj)
theorem runI_none {js : List Jb} {p : List UInt8} (h : runI js p = none) : ∀ j ∈ js, ¬ (j.pr = p ∧ j.st = 0) := fun j hj ⟨h1, h2⟩ => by
 have := zh4 h j hj
 simp [h1, h2] at this
structure JsOk (js : List Jb) : Prop where
 nm : ∀ (i k : Nat) (a b : Jb), js[i]? = some a → js[k]? = some b → a.nm = b.nm → i = k
 pr : ∀ (i k : Nat) (a b : Jb), js[i]? = some a → js[k]? = some b → a.pr = b.pr → a.st = 0 → b.st = 0 → i = k
 st : ∀ j ∈ js, j.st = 0 ∨ j.st = 1 ∨ j.st = 2
 ne : ∀ j ∈ js, j.nm ≠ []
 all : ∀ j ∈ js, (j.ly.length : Int) ≤ j.all ∧ j.all ≤ 1000
theorem nmI_is {js : List Jb} (h : JsOk js) {k : Nat} {j : Jb} (hk : js[k]? = some j) : nmI js j.nm = some k := fndI_is hk (by simp) fun i y hy hp => h.nm i k y j hy hk (of_decide_eq_true hp).symm
def stopJ (js : List Jb) (p : List UInt8) (s at_ : Int) : List Jb := match runI js p with
 | some k => js.modify k fun j => { j with st := s, en := at_ }
 | none => js
def layJ (js : List Jb) (p : List UInt8) (at_ : Int) : List Jb := match runI js p with
 | some k => js.modify k fun j => { j with ly := j.ly ++ [at_] }
 | none => js
def inUse (sp : List (Nat × List UInt8 × List UInt8)) (s : List UInt8) : Bool := sp.any fun e => decide (e.2.2 = s)
def rfE (b : Bk) (x : Nt) : Int :=
 if x.kd = 1 then (if (nmI b.js x.jb).isSome = true then 6 else if (runI b.js x.pr).isSome = true then 12 else 0)
 else if x.kd = 2 then (match runJ b.js x.pr with
  | none => 8
  | some j => if x.n ≠ (j.ly.length : Int) + 1 then 7 else if j.all < x.n then 2 else 0)
 else if x.kd = 3 then (match runJ b.js x.pr with
  | none => 8
  | some j => if (j.ly.length : Int) < j.all then 11 else 0)
 else if x.kd = 4 then (if (runI b.js x.pr).isSome = true then 0 else 8)
 else if x.kd = 5 then (if inUse b.sp x.sp = true then 6 else 0)
 else if x.kd = 6 then (match mget b.sp x.pr with
  | none => 8
  | some k => if (mget b.lf k).getD 0 < x.n then 12 else 0)
 else 0
def ntS (b : Bk) (x : Nt) : Bk :=
 if x.kd = 1 then { b with js := b.js ++ [⟨x.jb, x.pr, 0, [], x.n, x.at_, 0⟩] }
 else if x.kd = 2 then { b with js := layJ b.js x.pr x.at_ }
 else if x.kd = 3 then { b with js := stopJ b.js x.pr 1 x.at_ }
 else if x.kd = 4 then { b with js := stopJ b.js x.pr 2 x.at_ }
 else if x.kd = 5 then { b with sp := mset b.spk x.pr x.sp b.sp, spk := mclk b.spk x.pr b.sp, lf := mset b.lfk x.sp x.n b.lf, lfk := mclk b.lfk x.sp b.lf }
 else if x.kd = 6 then { b with lf := mset b.lfk ((mget b.sp x.pr).getD []) ((mget b.lf ((mget b.sp x.pr).getD [])).getD 0 - x.n) b.lf, lfk := mclk b.lfk ((mget b.sp x.pr).getD []) b.lf, us := mset b.usk ((mget b.sp x.pr).getD []) ((mget b.us ((mget b.sp x.pr).getD [])).getD 0 + x.n) b.us, usk := mclk b.usk ((mget b.sp x.pr).getD []) b.us }
 else b
def bk0 : Bk := ⟨[], [], 0, [], 0, [], 0⟩
def bkStep (s : Bk × List Int × List Int) (i : Int) (x : Nt) : Bk × List Int × List Int :=
 if rfE s.1 x ≠ 0 then (s.1, s.2.1 ++ [i], s.2.2 ++ [rfE s.1 x]) else (ntS s.1 x, s.2.1, s.2.2)
def bkK (l : List Nt) (ix : List Int) : Nat → Bk × List Int × List Int
 | 0 => (bk0, [], [])
 | k + 1 => match ix[k]? with
  | some i => (match l[i.toNat]? with
   | some x => bkStep (bkK l ix k) i x
   | none => bkK l ix k)
  | none => bkK l ix k
def bksF (l : List Nt) (ix : List Int) : Bk × List Int × List Int := bkK l ix ix.length
theorem bkK_next {l : List Nt} {ix : List Int} {k : Nat} {i : Int} {x : Nt} (h1 : ix[k]? = some i) (h2 : l[i.toNat]? = some x) : bkK l ix (k + 1) = bkStep (bkK l ix k) i x := by rw [bkK, h1]; simp only; rw [h2]
structure MapOk {α β : Type} (es : List (Nat × α × β)) (ck : Nat) : Prop where
 hb : ∀ e ∈ es, e.1 < ck
 nb : (es.map (·.1)).Nodup
 nk : (es.map (·.2.1)).Nodup
theorem mset_keys {α β : Type} [DecidableEq α] {ck : Nat} {a : α} {b : β} : ∀ {l : List (Nat × α × β)} {c : β}, mget l a = some c → (mset ck a b l).map (·.1) = l.map (·.1) ∧ (mset ck a b l).map (·.2.1) = l.map (·.2.1)
 | [], _, h => by cases h
 | e :: l, c, h => by
  simp only [mget] at h
  simp only [mset]
  split at h
  ·rename_i he
   rw [if_pos he]
   exact ⟨rfl, by simp [he]⟩
  ·rename_i he
   rw [if_neg he]
   obtain ⟨h1, h2⟩ := mset_keys (ck := ck) (b := b) h
   exact ⟨by simp [h1], by simp [h2]⟩
theorem mget_none {α β : Type} [DecidableEq α] {a : α} : ∀ {l : List (Nat × α × β)}, mget l a = none ↔ a ∉ l.map (·.2.1)
 | [] => by simp [mget]
 | e :: l => by
  simp only [mget, List.map_cons, List.mem_cons, not_or]
  split
  ·rename_i h; simp [h]
  ·rename_i h; rw [mget_none]; simp [h]
theorem MapOk.nil {α β : Type} : MapOk ([] : List (Nat × α × β)) 0 := ⟨by simp, by simp, by simp⟩
theorem MapOk.set {α β : Type} [DecidableEq α] {es : List (Nat × α × β)} {ck : Nat} (h : MapOk es ck) (a : α) (b : β) : MapOk (mset ck a b es) (mclk ck a es) := by
 cases hg : mget es a with
 | some c =>
  obtain ⟨h1, h2⟩ := mset_keys (ck := ck) (b := b) hg
  have hc : mclk ck a es = ck := by rw [mclk, hg]; rfl
  rw [hc]
  refine ⟨fun e he => ?_, by rw [h1]; exact h.nb, by rw [h2]; exact h.nk⟩
  have : e.1 ∈ (mset ck a b es).map (·.1) := List.mem_map.2 ⟨e, he, rfl⟩
  rw [h1] at this
  obtain ⟨e', he', h3⟩ := List.mem_map.1 this
  rw [← h3]
  exact h.hb e' he'
 | none =>
  have hc : mclk ck a es = ck + 1 := by rw [mclk, hg]; rfl
  rw [hc, zw2 hg]
  refine ⟨fun e he => ?_, ?_, ?_⟩
  ·rcases List.mem_append.1 he with he | he
   ·have := h.hb e he; omega
   ·rw [List.mem_singleton] at he; subst he; simp
  ·rw [List.map_append, List.nodup_append]
   refine ⟨h.nb, by simp, fun x hx y hy => ?_⟩
   simp only [List.map_cons, List.map_nil, List.mem_singleton] at hy
   subst hy
   obtain ⟨e, he, rfl⟩ := List.mem_map.1 hx
   have := h.hb e he
   omega
  ·rw [List.map_append, List.nodup_append]
   refine ⟨h.nk, by simp, fun x hx y hy => ?_⟩
   simp only [List.map_cons, List.map_nil, List.mem_singleton] at hy
   subst hy
   exact fun e => mget_none.1 hg (e ▸ hx)
theorem MapOk.del {α β : Type} [DecidableEq α] {es : List (Nat × α × β)} {ck : Nat} (h : MapOk es ck) (a : α) : MapOk (mdel a es) ck :=
 ⟨fun e he => h.hb e (mdel_sub.subset he), (mdel_sub.map _).nodup h.nb, (mdel_sub.map _).nodup h.nk⟩
theorem mget_mdel {α β : Type} [DecidableEq α] {a c : α} : ∀ {l : List (Nat × α × β)}, (l.map (·.2.1)).Nodup → mget (mdel a l) c = if c = a then none else mget l c
 | [], _ => by simp [mdel, mget]
 | e :: l, hn => by
  rw [List.map_cons, List.nodup_cons] at hn
  simp only [mdel, mget]
  by_cases h : a = e.2.1
  ·rw [if_pos h]
   by_cases hc : c = a
   ·rw [if_pos hc, mget_none.2 (by rw [hc, h]; exact hn.1)]
   ·rw [if_neg hc, if_neg (by rw [← h]; exact hc)]
  ·rw [if_neg h]
   simp only [mget]
   by_cases hc : c = e.2.1
   ·rw [if_pos hc, if_pos hc, if_neg (by rw [hc]; exact fun e' => h e'.symm)]
   ·rw [if_neg hc, if_neg hc, mget_mdel hn.2]
def unsG {α β : Type} (es : List (Nat × α × β)) (seen : List Nat) : Nat := (es.filter fun e => !seen.contains e.1).length
theorem unsG_lt {α β : Type} {es : List (Nat × α × β)} {seen : List Nat} {e : Nat × α × β} (he : e ∈ es) (hn : e.1 ∉ seen) : unsG es (seen ++ [e.1]) < unsG es seen := by
 unfold unsG
 have h1 : (es.filter fun x => !(seen ++ [e.1]).contains x.1) = (es.filter fun x => !seen.contains x.1).filter fun x => !decide (x.1 = e.1) := by
  rw [List.filter_filter]
  refine List.filter_congr fun x _ => ?_
  simp [Bool.and_comm]
 rw [h1]
 have h2 : e ∈ es.filter fun x => !seen.contains x.1 := List.mem_filter.2 ⟨he, by simpa using hn⟩
 refine Nat.lt_of_le_of_ne (List.length_filter_le _ _) fun h3 => ?_
 have h4 := (List.length_filter_eq_length_iff.1 h3) e h2
 simp at h4
theorem zc3 {α β : Type} {f : α → β} : ∀ {l : List α}, (l.map f).Nodup → l.Nodup
 | [], _ => .nil
 | x :: l, h => by
  rw [List.map_cons, List.nodup_cons] at h
  exact List.nodup_cons.2 ⟨fun hx => h.1 (List.mem_map.2 ⟨x, hx, rfl⟩), zc3 h.2⟩
theorem born_eq {α β : Type} {x y : Nat × α × β} : ∀ {l : List (Nat × α × β)}, (l.map (·.1)).Nodup → x ∈ l → y ∈ l → x.1 = y.1 → x = y
 | [], _, h, _, _ => by cases h
 | z :: l, hn, hx, hy, he => by
  rw [List.map_cons, List.nodup_cons] at hn
  obtain ⟨h1, h2⟩ := hn
  rcases List.mem_cons.1 hx with hx | hx
  ·rcases List.mem_cons.1 hy with hy | hy
   ·rw [hx, hy]
   ·exact absurd (List.mem_map.2 ⟨y, hy, by rw [← he, hx]⟩) h1
  ·rcases List.mem_cons.1 hy with hy | hy
   ·exact absurd (List.mem_map.2 ⟨x, hx, by rw [he, hy]⟩) h1
   ·exact born_eq h2 hx hy he
theorem visited_perm {α β : Type} {es T : List (Nat × α × β)} {seen : List Nat} (hb : (es.map (·.1)).Nodup) (hT : T.map (·.1) = seen) (hn : seen.Nodup) (hs : ∀ e ∈ T, e ∈ es) (hall : ∀ e ∈ es, e.1 ∈ seen) : T.Perm es := by
 subst hT
 have hTn : T.Nodup := zc3 hn
 have hen : es.Nodup := zc3 hb
 refine (List.perm_ext_iff_of_nodup hTn hen).2 fun e => ⟨hs e, fun he => ?_⟩
 obtain ⟨t, ht, h1⟩ := List.mem_map.1 (hall e he)
 have h2 := hs t ht
 have : t = e := born_eq hb h2 he h1
 exact this ▸ ht
end Go.Proofs.YtcdeonjdipcgpaaGreatDoor
-- NEWM
namespace Go.Proofs.YtcdeonjdipcgpaaGreatDoor
open Go Go.RowKit
set_option maxRecDepth 100000
section
variable {P : Program} {N : Nat} {E : Env} {F : Fm} {H : List OB} {o : Oper} {S : Nat → Prop} {ρ : List (Option Nat)} {a : Act} {w : World} {t yt : TypeId} {x y : Operand}
end
end Go.Proofs.YtcdeonjdipcgpaaGreatDoor
