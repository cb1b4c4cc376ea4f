/- strings.Trim with a set of ASCII letters, by value: the trims. -/
import Derived.Test.YtfilfijammemfaaGreatDoorQba
import Derived.Test.YtfilfijammemfaaGreatDoorQau
set_option linter.unusedSimpArgs false
set_option linter.unusedVariables false
/- Whether paths lead through a point, by value: the reference's on and led. -/
-- NEWM
-- NILC
namespace Go.Proofs.YtfilfijammemfaaGreatDoor
open Go Go.RowKit
set_option maxRecDepth 100000
def inQ (n lo hi : Int) : Bool := decide (lo ≤ n) && decide (n ≤ hi)
theorem qin_v (n lo hi : Int) : ACalls Tryz.prog 51 [.c (I n), .c (I lo), .c (I hi)] [] fun u H => u = .c (B (inQ n lo hi)) ∧ H = [] := by
 refine acalls_of (N := 15) Tryz.func51 rfl rfl (by simp) fun E hE => ?_
 by_cases h1 : lo ≤ n
 ·by_cases h2 : n ≤ hi
  ·repeat' (first
    | (with_reducible refine aw_seq ?_) | (with_reducible refine aseq_n ?_) | (with_reducible refine aseq_r ?_) | (with_reducible refine ablk_n ?_) | (with_reducible refine ablk_r ?_) | (with_reducible refine ablk_e ?_) | (with_reducible refine ablk_o rfl ?_) | (with_reducible refine aseq_e ?_) | (with_reducible refine aw_skip ?_) | (with_reducible refine aw_block ?_) | (with_reducible refine aw_ret ?_) | (with_reducible refine aw_exit ?_)
    | refine aw_cond_t rfl ?_ | refine aw_cond_f rfl ?_ | refine aw_if_t rfl (by assumption) ?_ | refine aw_if_f rfl (by assumption) ?_ | refine aw_if rfl (fun _ => ?_) (fun _ => ?_) | refine aw_cond rfl (fun _ => ?_) (fun _ => ?_)
    | (refine aw_region ?_; refine WE ?_))
   exact aret_1 [] _ rfl rfl rfl (by decide) (ZNK rfl) (fun _ => .nil) ⟨congrArg (fun z => AV.c (B z)) (by simp [inQ, h1, h2]), rfl⟩
  ·repeat' (first
    | (with_reducible refine aw_seq ?_) | (with_reducible refine aseq_n ?_) | (with_reducible refine aseq_r ?_) | (with_reducible refine ablk_n ?_) | (with_reducible refine ablk_r ?_) | (with_reducible refine ablk_e ?_) | (with_reducible refine ablk_o rfl ?_) | (with_reducible refine aseq_e ?_) | (with_reducible refine aw_skip ?_) | (with_reducible refine aw_block ?_) | (with_reducible refine aw_ret ?_) | (with_reducible refine aw_exit ?_)
    | refine aw_cond_t rfl ?_ | refine aw_cond_f rfl ?_ | refine aw_if_t rfl (by assumption) ?_ | refine aw_if_f rfl (by assumption) ?_ | refine aw_if rfl (fun _ => ?_) (fun _ => ?_) | refine aw_cond rfl (fun _ => ?_) (fun _ => ?_)
    | (refine aw_region ?_; refine WE ?_))
   exact aret_1 [] _ rfl rfl rfl (by decide) (ZNK rfl) (fun _ => .nil) ⟨congrArg (fun z => AV.c (B z)) (by simp [inQ, h1, h2]), rfl⟩
 ·repeat' (first
   | (with_reducible refine aw_seq ?_) | (with_reducible refine aseq_n ?_) | (with_reducible refine aseq_r ?_) | (with_reducible refine ablk_n ?_) | (with_reducible refine ablk_r ?_) | (with_reducible refine ablk_e ?_) | (with_reducible refine ablk_o rfl ?_) | (with_reducible refine aseq_e ?_) | (with_reducible refine aw_skip ?_) | (with_reducible refine aw_block ?_) | (with_reducible refine aw_ret ?_) | (with_reducible refine aw_exit ?_)
   | refine aw_cond_t rfl ?_ | refine aw_cond_f rfl ?_ | refine aw_if_t rfl (by assumption) ?_ | refine aw_if_f rfl (by assumption) ?_ | refine aw_if rfl (fun _ => ?_) (fun _ => ?_) | refine aw_cond rfl (fun _ => ?_) (fun _ => ?_)
   | (refine aw_region ?_; refine WE ?_))
  exact aret_1 [] _ rfl rfl rfl (by decide) (ZNK rfl) (fun _ => .nil) ⟨congrArg (fun z => AV.c (B z)) (by simp [inQ, h1]), rfl⟩
end Go.Proofs.YtfilfijammemfaaGreatDoor

/- Whether paths lead through a point, by value: the reference's led. -/
-- NEWM
namespace Go.Proofs.YtfilfijammemfaaGreatDoor
open Go Go.RowKit
set_option maxRecDepth 100000
end Go.Proofs.YtfilfijammemfaaGreatDoor

/- The span of a set of spots, by value. -/
-- NEWM
namespace Go.Proofs.YtfilfijammemfaaGreatDoor
open Go Go.RowKit
set_option maxRecDepth 100000
set_option maxHeartbeats 1000000 in
theorem span_v (es : SE) (ck : Nat) (L : List Spot) (hok : SetOk es ck L) : ACalls Tryz.prog 50 [.mp 0] [mpO encP encT es ck] fun u H => u = .t [.a [.c (I (x0 L)), .c (I (y0 L))], .a [.c (I (x1 L)), .c (I (y1 L))], .c (B (!L.isEmpty))] ∧ H = [mpO encP encT es ck] := by
 refine acalls_of (N := 41) Tryz.func50 rfl rfl (by simp) fun E hE => ?_
 refine WA ?_
 refine ZR ?_
 refine WX1 ?_
 refine al_ef rfl (ef_range (ke := encP) (ve := encT) (l := es) (ck := ck) rfl rfl (by decide) Tryz.underlying90 rfl rfl) ?_
 rintro _ _ ⟨rfl, rfl⟩
 refine WE ?_
 refine aw_loopw (fun m F H => ∃ (seen : List Nat) (T : List Spot) (s : Bool), unseen es seen = m ∧ (∀ p, p ∈ T ↔ p ∈ seenT es seen) ∧ (s = false ∧ T = [] ∨ s = true ∧ T ≠ []) ∧ F = [(2, .p 1 0 0), (3, .p 2 0 0), (4, .c (B s)), (7, .p 3 0 0)] ∧ H = [mpO encP encT es ck, .box [.c (I (x0 T)), .c (I (y0 T))], .box [.c (I (x1 T)), .c (I (y1 T))], .itr 0 ck seen ck]) ?_ ?_
 ·refine wk_of [some 0, some 1, some 2, some 3] (fun _ => [(2, .p 1 0 0), (3, .p 2 0 0), (4, .c (B false)), (7, .p 3 0 0)]) (fun _ => [mpO encP encT es ck, .box [.c (I (x0 [])), .c (I (y0 []))], .box [.c (I (x1 [])), .c (I (y1 []))], .itr 0 ck [] ck]) (by decide) (ZNL hE) ZCF ZCH (fun _ => ?_)
  exact ⟨_, [], [], false, rfl, fun p => by simp [seenT], .inl ⟨rfl, rfl⟩, rfl, rfl⟩
 rintro m F H ⟨seen, T, s, hm, hT, hs, rfl, rfl⟩
 refine ZR ?_
 refine al_ef rfl (ef_nextP (l := es) hok rfl rfl (by decide) rfl rfl rfl) ?_
 rintro _ _ (⟨eb, ex, ey, he, hne, rfl, rfl⟩ | ⟨hall, rfl, rfl⟩)
 all_goals (refine WE ?_)
 ·refine aw_cond_t rfl ?_
  have hlt := unseen_lt he hne
  have hT' : ∀ p, p ∈ T ++ [(ex, ey)] ↔ p ∈ seenT es (seen ++ [eb]) := fun p => by
   rw [seenT_snoc hok.nb he, List.mem_append, List.mem_append, hT]
  refine ZR ?_
  refine ZA (rd_entryP (l := es) hok rfl rfl rfl rfl he) ?_
  refine WE ?_
  refine WA ?_
  rcases hs with ⟨rfl, rfl⟩ | ⟨rfl, hne'⟩
  ·refine aw_cond_t rfl ?_
   refine ZZ ?_
   refine aw_regionT [(0, none), (1, none), (2, some [1]), (3, some []), (4, none)] hMixed (by kernel_rfl) ?_
   refine WQ ?_
   refine ZZ ?_
   refine aw_regionT [(0, none), (1, none), (2, none), (3, none), (4, none), (5, none), (6, none), (7, none), (8, none), (9, none), (10, none), (11, none), (12, none), (13, none), (14, none), (15, none), (16, none), (17, none), (18, none), (19, none), (20, none), (21, none), (22, some [11, 12, 13, 14, 15, 16, 17, 18, 19, 20, 21]), (23, some [])] hMixed (by kernel_rfl) ?_
   refine WQ ?_
   refine wk_of [some 0, some 1, some 2, some 3] (fun _ => [(2, .p 1 0 0), (3, .p 2 0 0), (4, .c (B true)), (7, .p 3 0 0)]) (fun _ => [mpO encP encT es ck, .box [.c (I (min ex ex)), .c (I (min ey ey))], .box [.c (I (max ex ex)), .c (I (max ey ey))], .itr 0 ck (seen ++ [eb]) ck]) (by decide) (ZNL hE) ZCF ZCH (fun _ => ?_)
   exact ⟨_, by rw [← hm]; exact hlt, seen ++ [eb], [] ++ [(ex, ey)], true, rfl, hT', .inr ⟨rfl, by simp⟩, rfl, by rw [Int.min_self, Int.min_self, Int.max_self, Int.max_self]; rfl⟩
  ·refine aw_cond_f rfl ?_
   refine ZZ ?_
   refine aw_regionT [(0, none), (1, none), (2, none), (3, none), (4, none), (5, none), (6, none), (7, none), (8, none), (9, none), (10, none), (11, none), (12, none), (13, none), (14, none), (15, none), (16, none), (17, none), (18, none), (19, none), (20, none), (21, none), (22, some [11, 12, 13, 14, 15, 16, 17, 18, 19, 20, 21]), (23, some [])] hMixed (by kernel_rfl) ?_
   refine WQ ?_
   refine wk_of [some 0, some 1, some 2, some 3] (fun _ => [(2, .p 1 0 0), (3, .p 2 0 0), (4, .c (B true)), (7, .p 3 0 0)]) (fun _ => [mpO encP encT es ck, .box [.c (I (min (x0 T) ex)), .c (I (min (y0 T) ey))], .box [.c (I (max (x1 T) ex)), .c (I (max (y1 T) ey))], .itr 0 ck (seen ++ [eb]) ck]) (by decide) (ZNL hE) ZCF ZCH (fun _ => ?_)
   obtain ⟨q1, q2, q3, q4⟩ := x0_snocs (p := (ex, ey)) hne'
   exact ⟨_, by rw [← hm]; exact hlt, seen ++ [eb], T ++ [(ex, ey)], true, rfl, hT', .inr ⟨rfl, by simp⟩, rfl, by rw [q1, q2, q3, q4]⟩
 ·refine aw_cond_f rfl ?_
  have hTL : ∀ p, p ∈ T ↔ p ∈ L := fun p => (hT p).trans (seenT_end hok hall)
  obtain ⟨q1, q2, q3, q4⟩ := x0_mem hTL
  have hsL : (!L.isEmpty) = s := by
   rcases hs with ⟨rfl, rfl⟩ | ⟨rfl, hne'⟩
   ·have : L = [] := List.eq_nil_iff_forall_not_mem.2 fun p hp => by rw [← hTL] at hp; cases hp
    rw [this]; rfl
   ·cases L with
    | nil => exact absurd (List.eq_nil_iff_forall_not_mem.2 fun p hp => by rw [hTL] at hp; cases hp) hne'
    | cons => rfl
  rw [hsL, ← q1, ← q2, ← q3, ← q4]
  refine ZZ ?_
  refine aw_regionT [(0, none), (1, none), (2, none), (3, some [1, 2]), (4, some [2]), (5, none)] hMixed (by kernel_rfl) ?_
  refine WQ ?_
  exact aret_of (us := [.a [.c (I (x0 T)), .c (I (y0 T))], .a [.c (I (x1 T)), .c (I (y1 T))], .c (B s)]) [some 0] (fun _ => .t [.a [.c (I (x0 T)), .c (I (y0 T))], .a [.c (I (x1 T)), .c (I (y1 T))], .c (B s)]) (fun _ => [mpO encP encT es ck]) (.cella (n := 2) rfl (by kernel_rfl) (Cells.box rfl) (by simp) (by (try simp only [nm, putL, Nat.reduceAdd, cellsOf, cvOf]) <;> rfl) (.cella (n := 2) rfl (by kernel_rfl) (Cells.box rfl) (by simp) (by (try simp only [nm, putL, Nat.reduceAdd, cellsOf, cvOf]) <;> rfl) (.tmp rfl .nil))) (by decide) (by first | exact (ZNK rfl)) (fun _ => cvt_clo _ _ _ _ _ rfl) ZCH (fun _ => ⟨rfl, rfl⟩)
end Go.Proofs.YtfilfijammemfaaGreatDoor

/- Arrays in the logic over values: an element of one, the address of an element, a literal, a slice of one. Conditions: none. -/
namespace Go.Proofs.YtfilfijammemfaaGreatDoor
open Go Go.RowKit
section
variable {P : Program} {N : Nat} {E : Env} {F : Fm} {H : List OB} {o : Oper} {S : Nat → Prop} {ρ : List (Option Nat)} {a : Act} {w : World}
def arrSz (P : Program) (t : TypeId) : Option (Nat × TypeId × Nat) :=
 match P.underlying t with
 | some (.array n e) => (P.info? e).map fun i => (n, e, i.size)
 | _ => none
theorem arrSz_spec {t e : TypeId} {n sz : Nat} (h : arrSz P t = some (n, e, sz)) : (underlying t).run P w = .ok (.array n e) w ∧ (sizeOf e).run P w = .ok sz w := by
 unfold arrSz at h
 cases hu : P.underlying t with
 | none => rw [hu] at h; cases h
 | some d =>
  rw [hu] at h
  cases d <;> simp only [reduceCtorEq] at h
  rename_i n' e'
  cases hi : P.info? e' with
  | none => rw [hi] at h; cases h
  | some i =>
   rw [hi] at h
   simp only [Option.map_some, Option.some.injEq, Prod.mk.injEq] at h
   obtain ⟨rfl, rfl, rfl⟩ := h
   exact ⟨by unfold underlying; simp [hu], by simp [sizeOf, typeInfo, hi]⟩
theorem rd_ixa {t e : TypeId} {x ix : Operand} {b k j n i sz : Nat} {kd : IntKind} {z : Int} (ho : o.op = .indexAddr t x ix) (ht : arrSz P t = some (n, e, sz)) (hx : ev F x = some (.p b k j)) (hix : ev F ix = some (.c (.s (.int kd z)))) (hz : z = i) (hi : i < n) :
    Rd P N E o F H (.p b k (j + i * sz)) := fun S ρ a w hR => by
 obtain ⟨h1, h2⟩ := hR.ev hx
 have h3 := (hR.ev hix).1
 simp only [AV.den, CV.den] at h3
 obtain ⟨hu, hs⟩ := arrSz_spec (w := w) ht
 cases h2 with
 | p g0 g =>
  obtain ⟨B, hB⟩ := Option.isSome_iff_exists.1 g
  refine ⟨?_, .p g0 g⟩
  simp only [execOp, ho, h1, h3, AV.den, hB, Option.map_some, hz, Sem.run_bind, Instr.indexAt, asIntOf, hu, Result.andThen_ok, Sem.run_pure, Instr.sureAddr]
  rw [if_pos (by omega)]
  simp only [Sem.run_bind, hs, Result.andThen_ok, Sem.run_pure, Int.toNat_natCast]
  unfold Addr.add
  split
  ·rename_i h0; rw [h0]; rfl
  ·simp only [Nat.add_assoc]
mutual
/-- Pointers to the block's cells, without rows. -/
def AV.nk (b : Nat) : AV → Bool
 | .p b' k _ => b' != b || k == 0
 | .a l => AV.nkL b l
 | .t l => AV.nkL b l
 | .f _ l => AV.nkL b l
 | _ => true
def AV.nkL (b : Nat) : List AV → Bool
 | [] => true
 | x :: l => AV.nk b x && AV.nkL b l
end
def OB.nk (b : Nat) : OB → Bool
 | .box l => AV.nkL b l
 | .boxt _ l => AV.nkL b l
 | .eqv x _ => AV.nk b x
 | _ => true
end
end Go.Proofs.YtfilfijammemfaaGreatDoor

/- strings.Trim with a set of ASCII letters, by value. -/
-- NEWM
namespace Go.Proofs.YtfilfijammemfaaGreatDoor
open Go Go.RowKit
set_option maxRecDepth 100000
def ascL (l : List UInt8) : List AV := (List.range 256).map fun i => .c (B (l.any fun c => c.toNat == i))
theorem ascL_len (l : List UInt8) : (ascL l).length = 256 := by simp [ascL]
theorem ascL_nil : (List.replicate 256 (Value.bool false)).map (fun v => AV.c (cvOf v)) = ascL [] := by
 rw [List.map_replicate, ascL]
 refine List.ext_getElem (by rw [List.length_replicate, List.length_map, List.length_range]) fun i h1 h2 => ?_
 rw [List.getElem_replicate, List.getElem_map]
 rfl
theorem ascL_at (l : List UInt8) (b : UInt8) : (ascL l).drop (0 + b.toNat * 1) = .c (B (l.contains b)) :: (ascL l).drop (b.toNat + 1) := by
 have hb := b.toNat_lt
 rw [Nat.zero_add, Nat.mul_one, List.drop_eq_getElem_cons (by rw [ascL_len]; omega)]
 congr 1
 simp only [ascL, List.getElem_map, List.getElem_range]
 congr 2
 rw [Bool.eq_iff_iff, List.any_eq_true, List.contains_iff_mem]
 constructor
 ·rintro ⟨c, h1, h2⟩
  have h2 : c.toNat = b.toNat := by simpa using h2
  rwa [← UInt8.toNat_inj.1 h2]
 ·intro h; exact ⟨b, h, by simp⟩
theorem ascL_put (l : List UInt8) (b : UInt8) : putL (ascL l) (0 + b.toNat * 1) [.c (B true)] = ascL (l ++ [b]) := by
 have hb := b.toNat_lt
 rw [Nat.zero_add, Nat.mul_one]
 refine List.ext_getElem? fun i => ?_
 rw [putL_get (by rw [ascL_len]; simp; omega)]
 have hat : ∀ (m : List UInt8) (i : Nat), (ascL m)[i]? = if i < 256 then some (.c (B (m.any fun c => c.toNat == i))) else none := fun m i => by
  unfold ascL
  rw [List.getElem?_map]
  split
  ·rename_i h; rw [List.getElem?_range h]; rfl
  ·rename_i h; rw [List.getElem?_eq_none (by simpa using h)]; rfl
 rw [hat, hat]
 simp only [List.length_singleton]
 by_cases hi : b.toNat ≤ i ∧ i < b.toNat + 1
 ·obtain rfl : i = b.toNat := by omega
  rw [if_pos ⟨by omega, by omega⟩, if_pos (by omega), Nat.sub_self]
  simp
 ·rw [if_neg hi]
  have : (b.toNat == i) = false := by simp; omega
  simp [List.any_append, this]
theorem ascL_clo (l : List UInt8) : AV.cloL (ascL l) = true := by
 have : ∀ m : List CV, AV.cloL (m.map .c) = true := fun m => by
  induction m with
  | nil => rfl
  | cons x m ih => rw [List.map_cons, AV.cloL, AV.clo]; exact ih
 have e : ascL l = ((List.range 256).map fun i => B (l.any fun c => c.toNat == i)).map .c := by rw [ascL, List.map_map]; rfl
 rw [e]; exact this _
theorem ascL_one (l : List UInt8) : (ascL l).all AV.one = true := by
 rw [List.all_eq_true]
 intro x hx
 obtain ⟨i, _, rfl⟩ := List.mem_map.1 hx
 rfl
theorem ascL_all (m l : List UInt8) : putL (ascL m) 0 (ascL l) = ascL l := by
 unfold putL
 rw [List.take_zero, List.nil_append, Nat.zero_add, List.drop_eq_nil_of_le (by rw [ascL_len, ascL_len]; exact Nat.le_refl _), List.append_nil]
theorem aschas_v (l : List UInt8) (b : UInt8) : ACalls Tryz.prog 168 [.p 0 0 0, .c (.s (.int .u8 b.toNat))] [.box (ascL l)] fun u H => u = .c (B (l.contains b)) ∧ H = [.box (ascL l)] := by
 refine acalls_of (N := 10) Tryz.func168 rfl rfl (by simp) fun E hE => ?_
 refine WA ?_
 refine ZR ?_
 iterate 3 refine WX1 ?_
 refine ZA (rd_ixa (i := b.toNat) (n := 256) (e := 4) (sz := 1) rfl (by kernel_rfl) rfl rfl rfl (by have := b.toNat_lt; omega)) ?_
 refine ZA (rd_loadn1 rfl (by kernel_rfl) rfl (Cells.box rfl) (ascL_at l b)) ?_
 refine WE ?_
 exact aret_1 [some 0] [.box (ascL l)] rfl rfl rfl (by decide) (ZNK rfl) (fun _ => .box rfl (C0 (ascL_clo l)) .nil) ⟨rfl, rfl⟩
theorem makeascii_v (l : List UInt8) (h8 : ∀ b ∈ l, b < 128) (hl : l.length ≤ 1000000) : ACalls Tryz.prog 131 [.c (T l)] [] fun u H => u = .t [.a (ascL l), .c (B true)] ∧ H = [] := by
 refine acalls_of (N := 21) Tryz.func131 rfl rfl (by simp) fun E hE => ?_
 refine ZR ?_
 refine al_ef rfl (ef_alloc (z := .agg (List.replicate 256 (Value.bool false)).toArray) (vs := List.replicate 256 (.bool false)) rfl rfl (by decide) (by kernel_rfl) rfl (by decide +kernel)) ?_
 rintro _ _ ⟨rfl, rfl⟩
 rw [ascL_nil]
 refine WE ?_
 refine WA ?_
 refine aw_loopw (fun m F H => ∃ k : Nat, m + k = l.length ∧ F = [(0, .c (T l)), (2, .p 0 0 0), (4, .c (I k))] ∧ H = [.box (ascL (l.take k))]) ?_ ?_
 ·refine wk_of [some 0] (fun _ => [(0, .c (T l)), (2, .p 0 0 0), (4, .c (I (0 : Nat)))]) (fun _ => [.box (ascL [])]) (by decide) (ZNL hE) ZCF (fun _ => .box rfl (C0 (ascL_clo _)) .nil) (fun _ => ?_)
  exact ⟨l.length, 0, by omega, rfl, rfl⟩
 rintro m F H ⟨k, hk, rfl, rfl⟩
 have hsz := bst_size l
 by_cases hlt : k < l.length
 ·obtain ⟨b, hb⟩ : ∃ b, l[k]? = some b := ⟨_, List.getElem?_eq_getElem hlt⟩
  have hb8 : ¬ (128 : Int) ≤ (b.toNat : Int) := by have := h8 b (List.mem_of_getElem? hb); have : b.toNat < 128 := this; omega
  have htk : l.take (k + 1) = l.take k ++ [b] := by rw [List.take_add_one, hb]; rfl
  refine WA ?_
  refine aw_cond_t rfl ?_
  refine ZR ?_
  iterate 2 refine WX1 ?_
  refine ZA (rd_idxs (i := k) rfl Tryz.underlying9 rfl rfl rfl hb) ?_
  refine WE ?_
  refine WA ?_
  refine aw_cond_f rfl ?_
  refine ZZ ?_
  refine ZR ?_
  refine WX1 ?_
  refine ZA (rd_ixa (i := b.toNat) (n := 256) (e := 4) (sz := 1) rfl (by kernel_rfl) rfl rfl rfl (by have := b.toNat_lt; omega)) ?_
  refine al_ef rfl (ef_storen (k := 1) rfl rfl rfl rfl rfl (by kernel_rfl) rfl (by rw [ascL_len]; have := b.toNat_lt; omega) rfl (ascL_put _ b) rfl) ?_
  rintro _ _ ⟨rfl, rfl⟩
  refine WE ?_
  refine WA ?_
  refine wk_of [some 0] (fun _ => [(0, .c (T l)), (2, .p 0 0 0), (4, .c (I (k + 1 : Nat)))]) (fun _ => [.box (ascL (l.take k ++ [b]))]) (by decide) (ZNL hE) ZCF (fun _ => .box rfl (C0 (ascL_clo _)) .nil) (fun _ => ?_)
  exact ⟨m - 1, by omega, k + 1, by omega, rfl, by rw [htk]⟩
 obtain rfl : k = l.length := by omega
 rw [List.take_length]
 refine WA ?_
 refine aw_cond_f rfl ?_
 refine ZZ ?_
 refine ZR ?_
 refine ZA (rd_loadn (k := 256) (cs' := ascL l) rfl (by kernel_rfl) rfl (Cells.box rfl) (by rw [List.drop_zero, List.take_of_length_le (by rw [ascL_len]; exact Nat.le_refl _)]) (by rw [List.drop_zero, ascL_len]; exact Nat.le_refl _)) ?_
 refine al_ef rfl (ef_storen (k := 256) (l' := ascL l) rfl rfl rfl rfl rfl (by kernel_rfl) (ascL_len l) (by rw [ascL_len]; exact Nat.le_refl _) (ascL_one l) (ascL_all _ l) rfl) ?_
 rintro _ _ ⟨rfl, rfl⟩
 refine WE ?_
 exact aret_of (us := [.a (ascL l), .c (B true)]) [] (fun _ => .t [.a (ascL l), .c (B true)]) (fun _ => []) (.cella (n := 256) rfl (by kernel_rfl) (Cells.box rfl) (by rw [List.drop_zero, ascL_len]; exact Nat.le_refl _) (by rw [List.drop_zero, List.take_of_length_le (by rw [ascL_len]; exact Nat.le_refl _)]) (.tmp rfl .nil)) (by decide) (fun i hi => absurd hi (Nat.not_lt_zero i)) (fun _ => .tL (.cons (.aL (C0 (ascL_clo l))) (.cons (.c rfl) .nil))) (fun _ => .nil) (fun _ => ⟨rfl, rfl⟩)
end Go.Proofs.YtfilfijammemfaaGreatDoor

/- strings.Trim with a set of ASCII letters, by value: the trims. -/
-- NEWM
namespace Go.Proofs.YtfilfijammemfaaGreatDoor
open Go Go.RowKit
set_option maxRecDepth 100000
def trR (p : UInt8 → Bool) (s : List UInt8) : List UInt8 := (s.reverse.dropWhile p).reverse
abbrev trB (cut s : List UInt8) : List UInt8 := (trR (fun b => cut.contains b) s).dropWhile fun b => cut.contains b
theorem trR_snoc (p : UInt8 → Bool) (s : List UInt8) (b : UInt8) : trR p (s ++ [b]) = if p b = true then trR p s else s ++ [b] := by
 unfold trR
 rw [List.reverse_append, List.reverse_singleton, List.singleton_append, List.dropWhile_cons]
 split
 ·rfl
 ·rw [List.reverse_cons, List.reverse_reverse]
theorem trR_len (p : UInt8 → Bool) (s : List UInt8) : (trR p s).length ≤ s.length := by
 unfold trR
 rw [List.length_reverse]
 have := (List.dropWhile_suffix (l := s.reverse) p).length_le
 rwa [List.length_reverse] at this
theorem dropW_nil (p : UInt8 → Bool) : ∀ s : List UInt8, s.dropWhile p = [] ↔ ∀ b ∈ s, p b = true
 | [] => by simp
 | a :: s => by
  rw [List.dropWhile_cons]
  split
  ·rename_i h; rw [dropW_nil p s]; simp [h]
  ·rename_i h; simp [h]
theorem trB_nil (cut s : List UInt8) : trB cut s = [] ↔ ∀ b ∈ s, cut.contains b = true := by
 have e0 : (∀ b ∈ s, cut.contains b = true) ↔ ∀ b ∈ s, (fun b => cut.contains b) b = true := Iff.rfl
 rw [e0]
 unfold trB
 generalize (fun b => cut.contains b) = p
 rw [dropW_nil]
 constructor
 ·intro h
  have hn : trR p s = [] := by
   rcases List.eq_nil_or_concat (trR p s) with e | ⟨l, b, e⟩
   ·exact e
   ·exfalso
    rw [List.concat_eq_append] at e
    have hb := h b (by rw [e]; simp)
    unfold trR at e
    have e2 : s.reverse.dropWhile p = b :: l.reverse := by
     have := congrArg List.reverse e
     simpa using this
    have := List.head_dropWhile_not p (l := s.reverse) (by rw [e2]; simp)
    simp only [e2, List.head_cons] at this
    rw [this] at hb; cases hb
  unfold trR at hn
  have := (dropW_nil p s.reverse).1 (List.reverse_eq_nil_iff.1 hn)
  intro b hb
  exact this b (by simpa using hb)
 ·intro h b hb
  unfold trR at hb
  exact h b (by
   have := (List.dropWhile_suffix (l := s.reverse) p).subset (List.mem_reverse.1 hb)
   simpa using this)
theorem rd_eqlsq {P : Program} {N : Nat} {E : Env} {F : Fm} {H : List OB} {o : Oper} {t yt : TypeId} {x y : Operand} {a b : List UInt8} {q : Bool} (h : decide (a = b) = q) (ho : o.op = .binOp .eql t x y yt) (ht : P.underlying t = some .string) (hx : ev F x = some (.c (T a))) (hy : ev F y = some (.c (T b))) : Rd P N E o F H (.c (B q)) := h ▸ rd_eqls ho ht hx hy
theorem trimr_v (cut s : List UInt8) (hl : s.length ≤ 1000000000) : ACalls Tryz.prog 133 [.c (T s), .p 0 0 0] [.box (ascL cut)] fun u H => u = .c (T (trR (fun b => cut.contains b) s)) ∧ H = [.box (ascL cut)] := by
 refine acalls_of (N := 22) Tryz.func133 rfl rfl (by simp) fun E hE => ?_
 refine WA ?_
 refine aw_loopw (fun m F H => ∃ r : List UInt8, r.length = m ∧ r.length ≤ 1000000000 ∧ trR (fun b => cut.contains b) r = trR (fun b => cut.contains b) s ∧ F = [(0, .c (T r)), (1, .p 0 0 0)] ∧ H = [.box (ascL cut)]) ?_ ?_
 ·refine wk_of [some 0] (fun _ => [(0, .c (T s)), (1, .p 0 0 0)]) (fun _ => [.box (ascL cut)]) (by decide) (ZNL hE) ZCF (fun _ => .box rfl (C0 (ascL_clo _)) .nil) (fun _ => ?_)
  exact ⟨_, s, rfl, hl, rfl, rfl, rfl⟩
 rintro m F H ⟨r, hm, hrl, hr, rfl, rfl⟩
 rcases List.eq_nil_or_concat r with rfl | ⟨r1, b, rfl⟩
 ·refine WA ?_
  refine aw_if_f rfl (by simp) ?_
  refine ZZ ?_
  refine WA ?_
  exact aret_1 [some 0] [.box (ascL cut)] rfl rfl rfl (by decide) (ZNK rfl) (fun _ => .box rfl (C0 (ascL_clo _)) .nil) ⟨by rw [← hr]; rfl, rfl⟩
 rw [List.concat_eq_append] at *
 have hb : (r1 ++ [b])[r1.length]? = some b := by simp
 have hlen : ((r1 ++ [b]).length : Int) = (r1.length : Int) + 1 := by simp
 have hsn := trR_snoc (fun b => cut.contains b) r1 b
 have hlr : r1.length ≤ 1000000000 := by rw [List.length_append] at hrl; omega
 refine WA ?_
 refine aw_cond_t rfl ?_
 obtain ⟨q, hq⟩ : ∃ q, cut.contains b = q := ⟨_, rfl⟩
 refine ZR ?_
 iterate 5 refine WX1 ?_
 refine ZA (rd_idxs (i := r1.length) rfl Tryz.underlying9 rfl rfl (by first | (simp; done) | (simp; omega)) hb) ?_
 refine al_ef rfl (ef_call [0] (fun _ => [.box (ascL cut)]) false (fun _ => aschas_v cut b) rfl .fn rfl (by decide) (by kernel_rfl) rfl (fun _ => .cons (.p rfl) (.cons (.c rfl) .nil)) (by decide) (fun _ => .box rfl (C0 (ascL_clo _)) .nil) (by simp)) ?_
 rintro F1 H1 ⟨_, _, _, _, ⟨rfl, rfl⟩, hF, hH⟩
 rw [hq] at hF
 (refine NSU hF hH ?_; clear hF hH; rintro rfl rfl)
 refine WE ?_
 cases q with
 | true =>
  rw [if_pos hq] at hsn
  refine aw_cond_f rfl ?_
  refine ZZ ?_
  refine ZR ?_
  iterate 4 refine WX1 ?_
  refine ZA (rd_slcs (i := 0) (j := r1.length) rfl Tryz.underlying9 rfl (.inl ⟨rfl, rfl⟩) (.inr ⟨_, _, _, rfl, rfl, by simp⟩) (by first | (simp; done) | (simp; omega)) (by first | (simp; done) | (simp; omega))) ?_
  refine WE ?_
  refine wk_of [some 0] (fun _ => [(0, .c (T r1)), (1, .p 0 0 0)]) (fun _ => [.box (ascL cut)]) (by decide) (ZNL hE) ZCF (fun _ => .box rfl (C0 (ascL_clo _)) .nil) (fun _ => ?_)
  exact ⟨_, by rw [← hm, List.length_append]; exact Nat.lt_succ_self _, r1, rfl, hlr, by rw [← hr, hsn], rfl, rfl⟩
 | false =>
  rw [if_neg (by rw [hq]; simp)] at hsn
  refine aw_cond_t rfl ?_
  refine ZZ ?_
  refine WA ?_
  exact aret_1 [some 0] [.box (ascL cut)] rfl rfl rfl (by decide) (ZNK rfl) (fun _ => .box rfl (C0 (ascL_clo _)) .nil) ⟨by rw [← hr, hsn], rfl⟩
theorem triml_v (cut s : List UInt8) (hl : s.length ≤ 1000000000) : ACalls Tryz.prog 132 [.c (T s), .p 0 0 0] [.box (ascL cut)] fun u H => u = .c (T (s.dropWhile fun b => cut.contains b)) ∧ H = [.box (ascL cut)] := by
 refine acalls_of (N := 16) Tryz.func132 rfl rfl (by simp) fun E hE => ?_
 refine WA ?_
 refine aw_loopw (fun m F H => ∃ r : List UInt8, r.length = m ∧ r.length ≤ 1000000000 ∧ (r.dropWhile fun b => cut.contains b) = (s.dropWhile fun b => cut.contains b) ∧ F = [(0, .c (T r)), (1, .p 0 0 0)] ∧ H = [.box (ascL cut)]) ?_ ?_
 ·refine wk_of [some 0] (fun _ => [(0, .c (T s)), (1, .p 0 0 0)]) (fun _ => [.box (ascL cut)]) (by decide) (ZNL hE) ZCF (fun _ => .box rfl (C0 (ascL_clo _)) .nil) (fun _ => ?_)
  exact ⟨_, s, rfl, hl, rfl, rfl, rfl⟩
 rintro m F H ⟨r, hm, hrl, hr, rfl, rfl⟩
 cases r with
 | nil =>
  refine WA ?_
  refine aw_if_f rfl (by simp) ?_
  refine ZZ ?_
  refine WA ?_
  exact aret_1 [some 0] [.box (ascL cut)] rfl rfl rfl (by decide) (ZNK rfl) (fun _ => .box rfl (C0 (ascL_clo _)) .nil) ⟨by rw [← hr]; rfl, rfl⟩
 | cons b r1 =>
 have hb : (b :: r1)[0]? = some b := rfl
 have hlr : r1.length ≤ 1000000000 := by rw [List.length_cons] at hrl; omega
 rw [List.dropWhile_cons] at hr
 obtain ⟨q, hq⟩ : ∃ q, cut.contains b = q := ⟨_, rfl⟩
 rw [hq] at hr
 refine WA ?_
 refine aw_if_t rfl (by first | (simp; done) | (simp; omega)) ?_
 refine ZR ?_
 iterate 2 refine WX1 ?_
 refine ZA (rd_idxs (i := 0) rfl Tryz.underlying9 rfl rfl (by first | (simp; done) | (simp; omega)) hb) ?_
 refine al_ef rfl (ef_call [0] (fun _ => [.box (ascL cut)]) false (fun _ => aschas_v cut b) rfl .fn rfl (by decide) (by kernel_rfl) rfl (fun _ => .cons (.p rfl) (.cons (.c rfl) .nil)) (by decide) (fun _ => .box rfl (C0 (ascL_clo _)) .nil) (by simp)) ?_
 rintro F1 H1 ⟨_, _, _, _, ⟨rfl, rfl⟩, hF, hH⟩
 rw [hq] at hF
 (refine NSU hF hH ?_; clear hF hH; rintro rfl rfl)
 refine WE ?_
 cases q with
 | true =>
  rw [if_pos rfl] at hr
  refine aw_cond_f rfl ?_
  refine ZZ ?_
  refine ZR ?_
  refine WX1 ?_
  refine ZA (rd_slcs (i := 1) (j := (r1.length + 1)) rfl Tryz.underlying9 rfl (.inr ⟨_, _, _, rfl, rfl, rfl⟩) (.inl ⟨rfl, rfl⟩) (by first | (simp; done) | (simp; omega)) (by first | (simp; done) | (simp; omega))) ?_
  refine WE ?_
  refine wk_of [some 0] (fun _ => [(0, .c (T r1)), (1, .p 0 0 0)]) (fun _ => [.box (ascL cut)]) (by decide) (ZNL hE) ZCF (fun _ => .box rfl (C0 (ascL_clo _)) .nil) (fun _ => ?_)
  exact ⟨_, by rw [← hm, List.length_cons]; exact Nat.lt_succ_self _, r1, rfl, hlr, hr, rfl, rfl⟩
 | false =>
  rw [if_neg (by simp)] at hr
  refine aw_cond_t rfl ?_
  refine ZZ ?_
  refine WA ?_
  exact aret_1 [some 0] [.box (ascL cut)] rfl rfl rfl (by decide) (ZNK rfl) (fun _ => .box rfl (C0 (ascL_clo _)) .nil) ⟨by rw [← hr], rfl⟩
theorem trim_v (cut s : List UInt8) (h8 : ∀ b ∈ cut, b < 128) (hc : 2 ≤ cut.length ∧ cut.length ≤ 1000000) (hl : s.length ≤ 1000000000) : ACalls Tryz.prog 91 [.c (T s), .c (T cut)] [] fun u H => u = .c (T (trB cut s)) ∧ H = [] := by
 have hcn : ¬ cut = [] := fun e => by rw [e] at hc; simp at hc
 refine acalls_of (N := 43) Tryz.func91 rfl rfl (by simp) fun E hE => ?_
 by_cases hs : s = []
 ·subst hs
  refine WA ?_
  refine ZR ?_
  refine WX1 ?_
  refine ZA (rd_eqlsq (b := []) (decide_eq_true rfl) rfl Tryz.underlying9 rfl rfl) ?_
  iterate 2 refine WX1 ?_
  first | refine ZP (rd_eqlsq (b := []) (decide_eq_false hcn) rfl Tryz.underlying9 rfl rfl) ?_ | refine ZS ?_
  refine WE ?_
  refine aw_cond_t rfl ?_
  refine WA ?_
  exact aret_1 [] _ rfl rfl rfl (by decide) (ZNK rfl) (fun _ => .nil) ⟨rfl, rfl⟩
 refine WA ?_
 refine ZR ?_
 refine WX1 ?_
 refine ZA (rd_eqlsq (b := []) (decide_eq_false hs) rfl Tryz.underlying9 rfl rfl) ?_
 iterate 2 refine WX1 ?_
 first | refine ZP (rd_eqlsq (b := []) (decide_eq_false hcn) rfl Tryz.underlying9 rfl rfl) ?_ | refine ZS ?_
 refine WE ?_
 refine aw_cond_f rfl ?_
 have hc1 : ¬ (cut.length : Int) = 1 := by omega
 refine ZZ ?_
 refine WA ?_
 refine aw_cond_f rfl ?_
 refine ZZ ?_
 refine WR ?_
 refine al_ef rfl (ef_call0 false (fun _ => makeascii_v cut h8 (by omega)) rfl .fn rfl (by decide) (by kernel_rfl) rfl (fun _ => C0 rfl) (by simp)) ?_
 rintro _ _ ⟨_, _, _, ⟨rfl, rfl⟩, hF, hH⟩
 generalize hAA : ascL cut = AA at hF
 (refine NST hF hH ?_; clear hF hH; rintro rfl rfl)
 subst hAA
 iterate 3 refine WX1 ?_
 refine al_ef rfl (ef_alloc (z := .agg (List.replicate 256 (Value.bool false)).toArray) (vs := List.replicate 256 (.bool false)) rfl rfl (by decide) (by kernel_rfl) rfl (by decide +kernel)) ?_
 rintro _ _ ⟨rfl, rfl⟩
 rw [ascL_nil]
 refine al_ef rfl (ef_storen (k := 256) (l' := ascL cut) rfl rfl rfl rfl rfl (by kernel_rfl) (ascL_len cut) (by rw [ascL_len]; exact Nat.le_refl _) (ascL_one cut) (ascL_all _ cut) rfl) ?_
 rintro _ _ ⟨rfl, rfl⟩
 refine WE ?_
 refine WA ?_
 refine aw_cond_t rfl ?_
 have hl2 := trR_len (fun b => cut.contains b) s
 refine WR ?_
 refine al_ef rfl (ef_call [0] (fun _ => [.box (ascL cut)]) false (fun _ => trimr_v cut s hl) rfl .fn rfl (by decide) (by kernel_rfl) rfl (fun _ => .cons (.c rfl) (.cons (.p rfl) .nil)) (by decide) (fun _ => .box rfl (C0 (ascL_clo _)) .nil) (by simp)) ?_
 rintro F1 H1 ⟨_, _, _, _, ⟨rfl, rfl⟩, hF, hH⟩
 (refine NSU hF hH ?_; clear hF hH; rintro rfl rfl)
 refine al_ef rfl (ef_call [0] (fun _ => [.box (ascL cut)]) false (fun _ => triml_v cut _ (by omega)) rfl .fn rfl (by decide) (by kernel_rfl) rfl (fun _ => .cons (.c rfl) (.cons (.p rfl) .nil)) (by decide) (fun _ => .box rfl (C0 (ascL_clo _)) .nil) (by simp)) ?_
 rintro F1 H1 ⟨_, _, _, _, ⟨rfl, rfl⟩, hF, hH⟩
 (refine NSU hF hH ?_; clear hF hH; rintro rfl rfl)
 refine WE ?_
 exact aret_1 [] _ rfl rfl rfl (by decide) (ZNK rfl) (fun _ => .nil) ⟨rfl, rfl⟩
end Go.Proofs.YtfilfijammemfaaGreatDoor
