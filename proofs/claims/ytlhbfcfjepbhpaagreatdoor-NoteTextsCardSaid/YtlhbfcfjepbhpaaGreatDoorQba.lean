/- Guarded effects of drawn regions. -/
import Derived.Test.YtlhbfcfjepbhpaaGreatDoorQav
import Derived.Shelf.SlSortCmp.NoneTotal
import Derived.Shelf.SortM.Plain
import Derived.Shelf.SortM.SortNone
import Derived.Test.YtlhbfcfjepbhpaaGreatDoorQau
import Derived.Test.YtlhbfcfjepbhpaaGreatDoorQaw
import Derived.Shelf.Strconv.Itoa3
import Derived.Lib.LaidTab
import Derived.Test.YtlhbfcfjepbhpaaGreatDoorProg
import Derived.Test.YtlhbfcfjepbhpaaGreatDoorQaz
import Derived.Test.YtlhbfcfjepbhpaaGreatDoorQaq
import Derived.Test.YtlhbfcfjepbhpaaGreatDoorQan
set_option linter.unusedSimpArgs false
set_option linter.unusedVariables false
namespace Go.Proofs.YtlhbfcfjepbhpaaGreatDoor
open Go Go.RowKit Go.Shelf Go.Sort
section
variable {w : World} {S : Nat → Prop} {ρ : List (Option Nat)} {e : TypeId} {k cap B n : Nat} {rows rows' : List (List CV)} {cs : Array Value} {os : Array Obj} {f : Array Value → Array Value}
end
end Go.Proofs.YtlhbfcfjepbhpaaGreatDoor
-- NEWM
namespace Go.Proofs.YtlhbfcfjepbhpaaGreatDoor
open Go Go.RowKit Go.Shelf
set_option maxRecDepth 100000
def itoaL_ren : Go.Shelf.Ren := ⟨fun | 171 => 61 | 243 => 113 | 246 => 168 | 283 => 242 | 284 => 243 | 285 => 244 | 286 => 245 | 129 => 181 | 317 => 297 | 318 => 298 | 319 => 299 | 320 => 300 | 337 => 343 | 338 => 344 | n => n, fun | 3 => 3 | 9 => 9 | 2 => 2 | 4 => 4 | 171 => 305 | 0 => 0 | 53 => 253 | 37 => 86 | 5 => 5 | 173 => 307 | 212 => 368 | 51 => 251 | 20 => 20 | 213 => 369 | 46 => 200 | 232 => 438 | 233 => 439 | n => n, fun | 17 => 1 | 18 => 6 | 19 => 7 | n => n⟩
theorem itoaL : Go.Proofs.LaysM.n171 Tryz.prog itoaL_ren := {
 mixed := by kernel_rfl
 f129 := Tryz.func181.trans (congrArg some (by kernel_rfl))
 f171 := Tryz.func61.trans (congrArg some (by kernel_rfl))
 f243 := Tryz.func113.trans (congrArg some (by kernel_rfl))
 f246 := Tryz.func168.trans (congrArg some (by kernel_rfl))
 f283 := Tryz.func242.trans (congrArg some (by kernel_rfl))
 f284 := Tryz.func243.trans (congrArg some (by kernel_rfl))
 f285 := Tryz.func244.trans (congrArg some (by kernel_rfl))
 f286 := Tryz.func245.trans (congrArg some (by kernel_rfl))
 f317 := Tryz.func297.trans (congrArg some (by kernel_rfl))
 f318 := Tryz.func298.trans (congrArg some (by kernel_rfl))
 f319 := Tryz.func299.trans (congrArg some (by kernel_rfl))
 f320 := Tryz.func300.trans (congrArg some (by kernel_rfl))
 f337 := Tryz.func343.trans (congrArg some (by kernel_rfl))
 f338 := Tryz.func344.trans (congrArg some (by kernel_rfl))
 t0 := Tryz.underlying0
 a0 := Tryz.isAgg0
 z0 := Tryz.sizeOf0
 v0 := Tryz.zeroValue0
 t2 := Tryz.underlying2
 a2 := Tryz.isAgg2
 z2 := Tryz.sizeOf2
 v2 := Tryz.zeroValue2
 t3 := Tryz.underlying3
 a3 := Tryz.isAgg3
 z3 := Tryz.sizeOf3
 v3 := Tryz.zeroValue3
 t4 := Tryz.underlying4
 a4 := Tryz.isAgg4
 z4 := Tryz.sizeOf4
 v4 := Tryz.zeroValue4
 t5 := Tryz.underlying5
 a5 := Tryz.isAgg5
 z5 := Tryz.sizeOf5
 v5 := Tryz.zeroValue5
 t9 := Tryz.underlying9
 a9 := Tryz.isAgg9
 z9 := Tryz.sizeOf9
 v9 := Tryz.zeroValue9
 t20 := Tryz.underlying20
 a20 := Tryz.isAgg20
 z20 := Tryz.sizeOf20
 v20 := Tryz.zeroValue20
 t37 := Tryz.underlying86
 a37 := Tryz.isAgg86
 z37 := Tryz.sizeOf86
 v37 := Tryz.zeroValue86
 t46 := Tryz.underlying200
 a46 := Tryz.isAgg200
 z46 := Tryz.sizeOf200
 v46 := Tryz.zeroValue200
 t51 := Tryz.underlying251
 a51 := Tryz.isAgg251
 z51 := Tryz.sizeOf251
 v51 := Tryz.zeroValue251
 t53 := Tryz.underlying253
 a53 := Tryz.isAgg253
 z53 := Tryz.sizeOf253
 v53 := Tryz.zeroValue253
 t171 := Tryz.underlying305
 a171 := Tryz.isAgg305
 z171 := Tryz.sizeOf305
 v171 := Tryz.zeroValue305
 t173 := Tryz.underlying307
 a173 := Tryz.isAgg307
 z173 := Tryz.sizeOf307
 v173 := Tryz.zeroValue307
 t212 := Tryz.underlying368
 a212 := Tryz.isAgg368
 z212 := Tryz.sizeOf368
 v212 := Tryz.zeroValue368
 t213 := Tryz.underlying369
 a213 := Tryz.isAgg369
 z213 := Tryz.sizeOf369
 t232 := Tryz.underlying438
 a232 := Tryz.isAgg438
 z232 := Tryz.sizeOf438
 v232 := Tryz.zeroValue438
 t233 := Tryz.underlying439
 a233 := Tryz.isAgg439
 z233 := Tryz.sizeOf439
 v233 := Tryz.zeroValue439
 g17 := by kernel_rfl
 g18 := by kernel_rfl
 g19 := by kernel_rfl
 i0 := by kernel_rfl
 i2 := by kernel_rfl
 i3 := by kernel_rfl
 i4 := by kernel_rfl
 i5 := by kernel_rfl
 i9 := by kernel_rfl
 i20 := by kernel_rfl
 i37 := by kernel_rfl
 i46 := by kernel_rfl
 i51 := by kernel_rfl
 i53 := by kernel_rfl
 i171 := by kernel_rfl
 i173 := by kernel_rfl
 i212 := by kernel_rfl
 i232 := by kernel_rfl
 i233 := by kernel_rfl
 m17 := by kernel_rfl
 m18 := by kernel_rfl
 m19 := by kernel_rfl }
def TabP (w : World) : Prop := Lib.TabIs Tryz.prog w "internal/strconv.uint64pow10" .u64 Lib.pow10Tab
theorem tabP_lt {w : World} (hx : TabP w) : ∃ g, Tryz.prog.globalNamed "internal/strconv.uint64pow10" = some g ∧ g < w.heap.size ∧ ∀ w' : World, w'.heap[g]? = w.heap[g]? → TabP w' := by
 unfold TabP Lib.TabIs World.var? at *
 cases hg : Tryz.prog.globalNamed "internal/strconv.uint64pow10" with
 | none => rw [hg] at hx; cases hx
 | some g =>
  rw [hg] at hx
  simp only [Option.bind_some] at hx ⊢
  refine ⟨g, rfl, ?_, fun w' hw => by rw [hw]; exact hx⟩
  rcases Nat.lt_or_ge g w.heap.size with h2 | h2
  ·exact h2
  ·rw [Array.getElem?_eq_none h2] at hx; cases hx
def TabX : XW where
 X w ρ H := TabP w ∧ ∀ g, Tryz.prog.globalNamed "internal/strconv.uint64pow10" = some g → (∀ i, atB ρ i ≠ some g) ∧ ∀ i k, ¬ inP H i k g
 mono := fun ⟨h1, h2⟩ h3 h4 => ⟨h1, fun g hg => ⟨fun i hi => by
  obtain ⟨j, hj⟩ := h3 i g hi
  exact (h2 g hg).1 j hj, fun i k hi => by
  obtain ⟨i', k', hj⟩ := h4 i k g hi
  exact (h2 g hg).2 i' k' hj⟩⟩
 step := fun ⟨h1, h2⟩ hs h3 h4 => by
  obtain ⟨g, hg, hlt, hw⟩ := tabP_lt h1
  obtain ⟨n1, n2⟩ := h2 g hg
  have hb := hs.block g hlt fun h => h.elim (fun ⟨i, hi⟩ => n1 i hi) fun ⟨i, k, hi⟩ => n2 i k hi
  refine ⟨hw _ hb, fun g' hg' => ?_⟩
  rw [hg] at hg'
  obtain rfl := Option.some.inj hg'
  refine ⟨fun i hi => ?_, fun i k hi => ?_⟩
  ·rcases h3 i g hi with (h | ⟨i', k', h⟩) | ⟨j, h⟩
   ·omega
   ·exact n2 i' k' h
   ·exact n1 j h
  ·rcases h4 i k g hi with h | ⟨i', k', h⟩
   ·omega
   ·exact n2 i' k' h
theorem zk2 : True := trivial
theorem tabX_of {w : World} (h : TabP w) : TabX.X w [] [] := ⟨h, fun g _ => ⟨fun i hi => (by cases hi), fun i k hi => zM1 hi⟩⟩
theorem acallsW_grow {P : Program} {X : XW} {f : FuncId} {args : List AV} {u : CV} (hu : ∃ v, u = .s v) (h : ∀ ρ w, X.X w ρ [] → Calls P f (args.map (AV.den ρ [])).toArray w fun e w' => e = .returned u.den ∧ ∃ k os, w' = Sort.grow (w.drewN k) os) : ACallsW X false P f args [] fun u' H => u' = .c u ∧ H = [] := fun S ρ w hx hR hW => by
 refine (h ρ w hx).mono ?_
 rintro e w' ⟨rfl, k, os, rfl⟩
 have hsz : w.heap.size ≤ (Sort.grow (w.drewN k) os).heap.size := by simp [Sort.grow, World.drewN]
 obtain ⟨v, rfl⟩ := hu
 refine ⟨.c (.s v), [], ρ, S, rfl, ⟨rfl, rfl⟩, .c (.s v), ⟨hR.len, hR.nd, hR.ap, fun i B h => Nat.lt_of_lt_of_le (hR.lt i B h) hsz, fun b hb => Nat.lt_of_lt_of_le (hR.sS b hb) hsz, fun i o h => by simp at h, PL.none fun _ _ _ => zM1⟩, ⟨rfl, rfl, rfl, hsz, fun b hb _ => ?_, ?_⟩, fun b hb => .inl hb, fun i B hi => ?_, fun i k' B hi => absurd hi zM1, fun i hi => by simp at hi, fun h => by cases h⟩
 ·simp only [Sort.grow, World.drewN]
  rw [Array.getElem?_append_left hb]
 ·show w.drawn ≤ w.drawn + k
  exact Nat.le_add_right _ _
 ·have hr0 : ρ = [] := List.eq_nil_of_length_eq_zero hR.len
  subst hr0
  cases hi
theorem zZ3 (n : Int) (h0 : -9223372036854775808 ≤ n) (h1 : n ≤ 9223372036854775807) : ACallsW TabX false Tryz.prog 61 [.c (I n)] [] fun u H => u = .c (T (Lib.itoa n)) ∧ H = [] :=
 acallsW_grow ⟨_, rfl⟩ fun _ w hx => Any.strconv_Itoa itoaL n h0 h1 w hx.1
end Go.Proofs.YtlhbfcfjepbhpaaGreatDoor
-- NEWM
namespace Go.Proofs.YtlhbfcfjepbhpaaGreatDoor
open Go Go.RowKit
set_option maxRecDepth 100000
section
variable {N : Nat} {E : Env} {o : Oper} {F : Fm} {H : List OB} {x y : Operand} {yt : TypeId}
theorem nt_eq {a b : Nt} : a = b ↔ a.st = b.st ∧ a.no = b.no ∧ a.at_ = b.at_ ∧ a.kd = b.kd ∧ a.pr = b.pr ∧ a.jb = b.jb ∧ a.sp = b.sp ∧ a.n = b.n ∧ a.of_ = b.of_ ∧ a.ot = b.ot := by
 cases a; cases b; simp
theorem rd_neqN0 {a0 a4 a5 a6 a8 : ByteArray} {a1 a2 a3 a7 a9 : Int} {b0 b4 b5 b6 b8 : ByteArray} {b1 b2 b3 b7 b9 : Int} (ho : o.op = .binOp .neq 39 x y yt) (hx : ev F x = some (.a [.c (.s (.string a0)), .c (.s (.int .i64 a1)), .c (.s (.int .i64 a2)), .c (.s (.int .i64 a3)), .c (.s (.string a4)), .c (.s (.string a5)), .c (.s (.string a6)), .c (.s (.int .i64 a7)), .c (.s (.string a8)), .c (.s (.int .i64 a9))])) (hy : ev F y = some (.a [.c (.s (.string b0)), .c (.s (.int .i64 b1)), .c (.s (.int .i64 b2)), .c (.s (.int .i64 b3)), .c (.s (.string b4)), .c (.s (.string b5)), .c (.s (.string b6)), .c (.s (.int .i64 b7)), .c (.s (.string b8)), .c (.s (.int .i64 b9))])) : Rd Tryz.prog N E o F H (.c (.s (.bool (decide (¬ (a0.toList = b0.toList ∧ a1 = b1 ∧ a2 = b2 ∧ a3 = b3 ∧ a4.toList = b4.toList ∧ a5.toList = b5.toList ∧ a6.toList = b6.toList ∧ a7 = b7 ∧ a8.toList = b8.toList ∧ a9 = b9)))))) :=
 zU1 (dx := .agg #[.string a0, .int .i64 a1, .int .i64 a2, .int .i64 a3, .string a4, .string a5, .string a6, .int .i64 a7, .string a8, .int .i64 a9]) (dy := .agg #[.string b0, .int .i64 b1, .int .i64 b2, .int .i64 b3, .string b4, .string b5, .string b6, .int .i64 b7, .string b8, .int .i64 b9]) ho hx hy (fun _ _ => by simp [AV.den, CV.den, AV.denL]) (fun _ _ => by simp [AV.den, CV.den, AV.denL]) fun w => by
  go_simp
  repeat' split
  all_goals simp_all
theorem nt_eqb {a b : Nt} : a = b ↔ (bst a.st).toList = (bst b.st).toList ∧ a.no = b.no ∧ a.at_ = b.at_ ∧ a.kd = b.kd ∧ (bst a.pr).toList = (bst b.pr).toList ∧ (bst a.jb).toList = (bst b.jb).toList ∧ (bst a.sp).toList = (bst b.sp).toList ∧ a.n = b.n ∧ (bst a.of_).toList = (bst b.of_).toList ∧ a.ot = b.ot := by
 rw [nt_eq]; simp only [zc2]
theorem rd_neqN {a b : Nt} {q : Bool} (h : decide (¬ a = b) = q) (ho : o.op = .binOp .neq 39 x y yt) (hx : ev F x = some (noA a)) (hy : ev F y = some (noA b)) : Rd Tryz.prog N E o F H (.c (.s (.bool q))) := by
 have := rd_neqN0 (N := N) (E := E) (H := H) ho hx hy
 rwa [show decide (¬ ((bst a.st).toList = (bst b.st).toList ∧ a.no = b.no ∧ a.at_ = b.at_ ∧ a.kd = b.kd ∧ (bst a.pr).toList = (bst b.pr).toList ∧ (bst a.jb).toList = (bst b.jb).toList ∧ (bst a.sp).toList = (bst b.sp).toList ∧ a.n = b.n ∧ (bst a.of_).toList = (bst b.of_).toList ∧ a.ot = b.ot)) = q by rw [← h]; exact decide_eq_decide.2 (not_congr nt_eqb.symm)] at this
end
end Go.Proofs.YtlhbfcfjepbhpaaGreatDoor
namespace Go.Proofs.YtlhbfcfjepbhpaaGreatDoor
open Go Go.RowKit
section
variable {P : Program} {N : Nat} {E : Env} {F : Fm} {H : List OB} {o : Oper} {Q : Exit → Fm → List OB → Prop} {ops : Array Oper} {i : Nat} {L : List (Nat × Option (List Nat))}
theorem wanted_no {S : Nat → Prop} {ρ : List (Option Nat)} {a : Act} {w : World} (h : gd ops o F = some false) (hR : R N E S ρ F H a w) : Region.wanted o (yielded ops a.tmps) = false := by
 obtain ⟨j, b, oj, t, h1, h2, h3, ⟨b', h4, h5⟩ | ⟨h4, _⟩⟩ := gd_of h
 ·simp only [Region.wanted, h1, zI1 hR h2 h3 h4]
  cases b <;> cases b' <;> simp_all
 ·simp [Region.wanted, h1, zc3 hR h2 h3 h4]
theorem zn3 {U : List Nat} {K : Fm → List OB → Prop} (ho : ops[i]? = some o) (hr : Ef P N E o F H K) (h : ∀ F' H', K F' H' → (∀ j ∈ U, Ag P N E ops F' H' j) ∧ AT P N E ops L F' H' Q) (hg : gok ops o F = true := by exact rfl) : AT P N E ops ((i, some U) :: L) F H Q := fun S ρ a w hR => by
 refine wpT_e ho fun K' hK => ?_
 rw [if_pos (zu2 (P := P) hg hR)]
 refine zg1 (fun a' w' hh => ?_) (hr S ρ a w hR)
 obtain ⟨S', ρ', F', H', hk, hR'⟩ := hh
 obtain ⟨h1, h2⟩ := h F' H' hk
 exact hK _ _ (fun j hj => h1 j hj S' ρ' a' w' hR') (h2 S' ρ' a' w' hR')
theorem zm3 {U : List Nat} {d : Nat} (ho : ops[i]? = some o) (hg : gd ops o F = some false) (hd : o.dst = some d) (hN : d < N) (h : (∀ j ∈ U, Ag P N E ops ((d, un) :: F) H j) ∧ AT P N E ops L ((d, un) :: F) H Q) : AT P N E ops ((i, some U) :: L) F H Q := fun S ρ a w hR => by
 refine wpT_e ho fun K' hK => ?_
 rw [if_neg (by rw [wanted_no hg hR]; simp)]
 have hR' : R N E S ρ ((d, un) :: F) H (a.put o.dst undef) w := by rw [hd]; exact hR.put hN (.c (.s _))
 exact hK _ _ (fun j hj => h.1 j hj S ρ _ w hR') (h.2 S ρ _ w hR')
theorem put_sameK {S : Nat → Prop} {ρ : List (Option Nat)} {a : Act} {w : World} {d : Nat} {x : AV} (hR : R N E S ρ F H a w) (hx : F.lookup d = some x) : a.put (some d) (x.den ρ H) = a := by
 have hf := (hR.fr d x hx).1
 obtain ⟨tm, df⟩ := a
 simp only [Act.put, Act.mk.injEq, and_true]
 refine Array.ext_getElem? fun k => ?_
 rw [Array.getElem?_setIfInBounds]
 split
 ·rename_i hk; subst hk; rw [hf]; split
  ·rfl
  ·rename_i hlt; rw [Array.getElem?_eq_none (by simpa using hlt)] at hf; cases hf
 ·rfl
theorem zR {j d : Nat} {x : AV} (ho : ops[j]? = some o) (hg : gok ops o F = true) (hd : o.dst = some d) (hr : Rd P N E o F H x) (hx : F.lookup d = some x) : Ag P N E ops F H j := fun S ρ a w hR => by
 obtain ⟨h1, h2⟩ := hr S ρ a w hR
 refine again_of ho fun K hK => ?_
 rw [if_pos (zu2 (P := P) hg hR)]
 unfold Oper.still
 rw [h1]
 refine ⟨rfl, ?_⟩
 rw [hd, put_sameK hR hx]
 exact hK
theorem zp1 {j d : Nat} (ho : ops[j]? = some o) (hg : gd ops o F = some false) (hd : o.dst = some d) (hx : F.lookup d = some un) : Ag P N E ops F H j := fun S ρ a w hR => by
 refine again_of ho fun K hK => ?_
 rw [if_neg (by rw [wanted_no hg hR]; simp)]
 have : a.put (some d) undef = a := put_sameK hR hx
 rw [hd, this]
 exact hK
end
end Go.Proofs.YtlhbfcfjepbhpaaGreatDoor
