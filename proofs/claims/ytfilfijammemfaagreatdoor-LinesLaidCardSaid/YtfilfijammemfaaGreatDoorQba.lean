/- What is wrong with paths that cover, by value: the reference's WaysFault. -/
import Derived.Test.YtfilfijammemfaaGreatDoorQay
import Derived.Test.YtfilfijammemfaaGreatDoorQaz
import Derived.Test.YtfilfijammemfaaGreatDoorQao
import Derived.Laws.StructEq
set_option linter.unusedSimpArgs false
set_option linter.unusedVariables false
/- The union of cells, by value: Union. -/
-- NEWM
namespace Go.Proofs.YtfilfijammemfaaGreatDoor
open Go Go.RowKit
set_option maxRecDepth 100000
theorem covK_in {g : Grd} {k : Nat} {p : Spot} (h : p ∈ covK g k) (hk : k ≤ g.on.length) : p ∈ covG g := by
 unfold covG covK at *
 obtain ⟨i, hi, rfl⟩ := List.mem_map.1 h
 rw [List.mem_filter, List.mem_range] at hi
 exact List.mem_map.2 ⟨i, List.mem_filter.2 ⟨List.mem_range.2 (by omega), hi.2⟩, rfl⟩
end Go.Proofs.YtfilfijammemfaaGreatDoor

/- Ways through the centers of cells: plain. -/
namespace Go.Proofs.YtfilfijammemfaaGreatDoor
def onS (a b p : Spot) : Prop := (b.1 - a.1) * (p.2 - a.2) = (b.2 - a.2) * (p.1 - a.1) ∧ (min a.1 b.1 ≤ p.1 ∧ p.1 ≤ max a.1 b.1) ∧ (min a.2 b.2 ≤ p.2 ∧ p.2 ≤ max a.2 b.2)
theorem covG_box {g : Grd} (hl : g.on.length = g.w * g.h) {p : Spot} (hp : p ∈ covG g) : inBox g.x g.y g.w g.h p := by
 have h := (atG_iff hl (a := p.1) (b := p.2)).2 hp
 unfold atG at h
 simp only [Bool.and_eq_true, decide_eq_true_iff] at h
 unfold inBox
 omega
end Go.Proofs.YtfilfijammemfaaGreatDoor

/- A way over a grid, by value: pass. -/
-- NILC
namespace Go.Proofs.YtfilfijammemfaaGreatDoor
open Go Go.RowKit
set_option maxRecDepth 100000
section
variable {P : Program} {N : Nat} {E : Env} {F : Fm} {H : List OB} {o : Oper} {t yt : TypeId} {x y : Operand} {m n z : Int}
theorem rd_quoP (ho : o.op = .binOp .quo t x y yt) (hx : ev F x = some (.c (.s (.int .i64 m)))) (hy : ev F y = some (.c (.s (.int .i64 n)))) (h0 : n ≠ 0) (hz : wrap64 (m.tdiv n) = z) : Rd P N E o F H (.c (.s (.int .i64 z))) := by
 subst hz; exact rd_quo ho hx hy h0
end
end Go.Proofs.YtfilfijammemfaaGreatDoor

/- A way over a grid, by value: pass. -/
-- NEWM
-- NILC
namespace Go.Proofs.YtfilfijammemfaaGreatDoor
open Go Go.RowKit
set_option maxRecDepth 100000
end Go.Proofs.YtfilfijammemfaaGreatDoor

/- What is wrong with paths that cover, by value: the program's pathsFault. -/
-- NEWM
namespace Go.Proofs.YtfilfijammemfaaGreatDoor
open Go Go.RowKit
set_option maxRecDepth 100000
end Go.Proofs.YtfilfijammemfaaGreatDoor

/- The cells through whose centers paths lead, by value: passed. -/
-- NEWM
-- NILC
namespace Go.Proofs.YtfilfijammemfaaGreatDoor
open Go Go.RowKit
set_option maxRecDepth 100000
end Go.Proofs.YtfilfijammemfaaGreatDoor

/- Covered, by value. -/
-- NEWM
-- NILC
namespace Go.Proofs.YtfilfijammemfaaGreatDoor
open Go Go.RowKit
set_option maxRecDepth 100000
instance (a b p : Spot) : Decidable (onS a b p) := by unfold onS; infer_instance
end Go.Proofs.YtfilfijammemfaaGreatDoor

/- Left, by value. -/
-- NEWM
-- NILC
namespace Go.Proofs.YtfilfijammemfaaGreatDoor
open Go Go.RowKit
set_option maxRecDepth 100000
end Go.Proofs.YtfilfijammemfaaGreatDoor

/- Fractions in lowest terms, by value: Lowest of the program and of its document. The same names as in XMf: import one of both. -/
namespace Go.Proofs.YtfilfijammemfaaGreatDoor
open Go Go.RowKit
set_option maxRecDepth 100000
end Go.Proofs.YtfilfijammemfaaGreatDoor

/- Density, by value. -/
-- NEWM
-- NILC
namespace Go.Proofs.YtfilfijammemfaaGreatDoor
open Go Go.RowKit
set_option maxRecDepth 100000
def cntG (g : Grd) (k : Nat) : Nat := (covK g k).length
def cntH (g h : Grd) (k : Nat) : Nat := ((covK g k).filter fun q => decide (q ∈ covG h)).length
theorem cnt_le {g h : Grd} : ∀ k : Nat, cntG g k ≤ k ∧ cntH g h k ≤ k
 | 0 => ⟨Nat.le_refl _, Nat.le_refl _⟩
 | k + 1 => by
  obtain ⟨h1, h2⟩ := cnt_le (g := g) (h := h) k
  unfold cntG cntH at *
  rw [covK_snoc]
  split
  ·rw [List.length_append, List.filter_append, List.length_append]
   have : ([spt g k].filter fun q => decide (q ∈ covG h)).length ≤ 1 := List.length_filter_le _ _
   simp only [List.length_cons, List.length_nil] at *
   omega
  ·rw [List.append_nil]; omega
end Go.Proofs.YtfilfijammemfaaGreatDoor

/- Shrinking: what is near, the closures, by value. -/
-- NEWM
namespace Go.Proofs.YtfilfijammemfaaGreatDoor
open Go Go.RowKit
set_option maxRecDepth 100000
end Go.Proofs.YtfilfijammemfaaGreatDoor

/- The cells of a grid that a function chooses: one that holds two values. -/
-- NEWM
namespace Go.Proofs.YtfilfijammemfaaGreatDoor
open Go Go.RowKit
set_option maxRecDepth 100000
end Go.Proofs.YtfilfijammemfaaGreatDoor

/- Shrinking, by value: the second closure; Each with the first one. -/
-- NEWM
namespace Go.Proofs.YtfilfijammemfaaGreatDoor
open Go Go.RowKit
set_option maxRecDepth 100000
end Go.Proofs.YtfilfijammemfaaGreatDoor

/- Shrinking, by value. -/
-- NEWM
namespace Go.Proofs.YtfilfijammemfaaGreatDoor
open Go Go.RowKit
set_option maxRecDepth 100000
end Go.Proofs.YtfilfijammemfaaGreatDoor

/- Walls of near cells: shrinking and minus without faults, by value. -/
-- NEWM
namespace Go.Proofs.YtfilfijammemfaaGreatDoor
open Go Go.RowKit
set_option maxRecDepth 100000
end Go.Proofs.YtfilfijammemfaaGreatDoor

/- Walls of near cells, by value. -/
-- NEWM
namespace Go.Proofs.YtfilfijammemfaaGreatDoor
open Go Go.RowKit
set_option maxRecDepth 100000
theorem celN_st (st : Int) (L : List Spot) : (celN st L).st = st := by unfold celN; split <;> rfl
abbrev cR (l : List (Value × Cel)) : List (List CV) := l.map fun p => celR p.1 p.2
end Go.Proofs.YtfilfijammemfaaGreatDoor

/- Walls, by value. -/
-- NEWM
namespace Go.Proofs.YtfilfijammemfaaGreatDoor
open Go Go.RowKit
set_option maxRecDepth 100000
end Go.Proofs.YtfilfijammemfaaGreatDoor

/- Grids of layers; what is wrong with layers, by value. -/
-- NEWM
namespace Go.Proofs.YtfilfijammemfaaGreatDoor
open Go Go.RowKit
set_option maxRecDepth 100000
end Go.Proofs.YtfilfijammemfaaGreatDoor

/- What is wrong with layers and styles, by value. -/
-- NEWM
namespace Go.Proofs.YtfilfijammemfaaGreatDoor
open Go Go.RowKit
set_option maxRecDepth 100000
end Go.Proofs.YtfilfijammemfaaGreatDoor

/- Solid cells, by value: the closure. -/
-- NEWM
namespace Go.Proofs.YtfilfijammemfaaGreatDoor
open Go Go.RowKit
set_option maxRecDepth 100000
end Go.Proofs.YtfilfijammemfaaGreatDoor

/- Solid cells, by value. -/
-- NEWM
namespace Go.Proofs.YtfilfijammemfaaGreatDoor
open Go Go.RowKit
set_option maxRecDepth 100000
end Go.Proofs.YtfilfijammemfaaGreatDoor

/- Solid, by value. -/
-- NEWM
namespace Go.Proofs.YtfilfijammemfaaGreatDoor
open Go Go.RowKit
set_option maxRecDepth 100000
end Go.Proofs.YtfilfijammemfaaGreatDoor

/- Walks through strings; sets of spots in the logic. -/
namespace Go.Proofs.YtfilfijammemfaaGreatDoor
open Go Go.RowKit
section
variable {P : Program} {N : Nat} {E : Env} {F : Fm} {H : List OB} {o : Oper} {S : Nat → Prop} {ρ : List (Option Nat)} {a : Act} {w : World} {t : TypeId} {x y : Operand}
theorem ef_ranges {d : Nat} {l : List UInt8} (ho : o.op = .range t x) (hd : o.dst = some d) (hN : d < N) (ht : P.underlying t = some .string) (hx : ev F x = some (.c (T l))) :
    Ef P N E o F H fun F' H' => F' = (d, .p H.length 0 0) :: F ∧ H' = H ++ [.sit (bst l) 0] :=
 ef_of hd hN ⟨rfl, rfl⟩ fun S ρ a w hR => by
  have h1 := (hR.ev hx).1
  simp only [AV.den, CV.den] at h1
  refine ⟨S, ρ ++ [some w.heap.size], w.alloc (.stringIter (bst l) 0), ?_, ?_, wf_snoc_p hR.hp _⟩
  ·rw [den_snoc_p hR.hp]
   simp only [execOp, ho, h1, Instr.range, Sem.run_bind, st_under ht, Result.andThen_ok, Sem.run_pure, run_newObj, World.alloc_eq]
  ·exact hR.newO _ (.sit (bst l) 0) ⟨_, rfl, by rw [heap_new]⟩
theorem decode_bst {l : List UInt8} {k : Nat} {b : UInt8} (hb : l[k]? = some b) (h : b < 128) : Utf8.decode (bst l) k = (b.toNat, 1) := by
 have hk := (List.getElem?_eq_some_iff.1 hb).1
 have h0 : ((bst l).get! (k + 0)).toNat = b.toNat := by
  congr 1
  show (l.toArray)[k + 0]! = b
  simp [getElem!_def, hb]
 unfold Utf8.decode
 simp only [h0]
 have : b.toNat < 128 := h
 rw [if_pos this]
theorem ef_nexts {bi d k : Nat} {l : List UInt8} {b : UInt8} (ho : o.op = .next x true) (hd : o.dst = some d) (hN : d < N) (hx : ev F x = some (.p bi 0 0)) (hi : H[bi]? = some (.sit (bst l) k)) (hb : l[k]? = some b) (h8 : b < 128) :
    Ef P N E o F H fun F' H' => F' = (d, .t [.c (.s (.bool true)), .c (.s (.int .i64 k)), .c (.s (.int .i32 b.toNat))]) :: F ∧ H' = H.set bi (.sit (bst l) (k + 1)) := fun S ρ a w hR => by
 obtain ⟨h1, _⟩ := hR.ev hx
 obtain ⟨Bi, i1, i2⟩ := hR.hp.blk bi _ hi
 have hz : szAt H bi = 0 := by unfold szAt; rw [hi]; rfl
 simp only [AV.den, i1, hz, Option.map_some, Nat.mul_zero, Nat.add_zero, Nat.zero_add] at h1
 have hk := (List.getElem?_eq_some_iff.1 hb).1
 have hg : (getObj Bi).run P w = .ok (.stringIter (bst l) k) w := by unfold getObj; simp [Sem.run, i2]
 have hs : (setObj Bi (.stringIter (bst l) (k + 1))).run P w = .ok () (putBlk w Bi (.stringIter (bst l) (k + 1))) := by unfold setObj; simp [Sem.run, i2, putBlk]
 unfold effO
 have hex : (execOp a.eval o).run P w = .ok (.value (.tuple #[.bool true, .int .i64 k, .int .i32 b.toNat])) (putBlk w Bi (.stringIter (bst l) (k + 1))) := by
  simp only [execOp, ho, h1, Instr.next, Sem.run_bind, hg, Result.andThen_ok]
  rw [if_pos (by rw [bst_size]; exact hk), decode_bst hb h8]
  simp only [Sem.run_bind, hs, Result.andThen_ok, Sem.run_pure]
  rfl
 rw [hex]
 refine ⟨S, ρ, _, _, ⟨rfl, rfl⟩, ?_⟩
 rw [hd]
 have hset := R.set (ob := .sit (bst l) k) (ob' := .sit (bst l) (k + 1)) (cob := .stringIter (bst l) (k + 1)) hR hi i1 rfl rfl (fun h => absurd rfl h) (putBlk_size _ _) ⟨Bi, rfl, putBlk_at i2⟩
 have := hset.put (d := d) (x := .t [.c (.s (.bool true)), .c (.s (.int .i64 k)), .c (.s (.int .i32 b.toNat))]) hN (.t fun y hy => by
  simp only [List.mem_cons, List.not_mem_nil, or_false] at hy
  rcases hy with rfl | rfl | rfl <;> exact .c (.s _))
 simpa [AV.den, AV.denL, CV.den] using this
theorem ef_nexte {bi d k : Nat} {l : List UInt8} (ho : o.op = .next x true) (hd : o.dst = some d) (hN : d < N) (hx : ev F x = some (.p bi 0 0)) (hi : H[bi]? = some (.sit (bst l) k)) (hk : l.length ≤ k) :
    Ef P N E o F H fun F' H' => F' = (d, .t [.c (.s (.bool false))]) :: F ∧ H' = H := fun S ρ a w hR => by
 obtain ⟨h1, _⟩ := hR.ev hx
 obtain ⟨Bi, i1, i2⟩ := hR.hp.blk bi _ hi
 have hz : szAt H bi = 0 := by unfold szAt; rw [hi]; rfl
 simp only [AV.den, i1, hz, Option.map_some, Nat.mul_zero, Nat.add_zero, Nat.zero_add] at h1
 have hg : (getObj Bi).run P w = .ok (.stringIter (bst l) k) w := by unfold getObj; simp [Sem.run, i2]
 unfold effO
 have hex : (execOp a.eval o).run P w = .ok (.value (.tuple #[.bool false])) w := by
  simp only [execOp, ho, h1, Instr.next, Sem.run_bind, hg, Result.andThen_ok]
  rw [if_neg (by rw [bst_size]; omega)]
  rfl
 rw [hex]
 refine ⟨S, ρ, _, _, ⟨rfl, rfl⟩, ?_⟩
 rw [hd]
 exact hR.put (x := .t [.c (.s (.bool false))]) hN (.t fun y hy => by rw [List.mem_singleton.1 hy]; exact .c (.s _))
theorem ef_nextP {bi b ck d : Nat} {seen : List Nat} {l : SE} {L : List Spot} (hok : SetOk l ck L) (ho : o.op = .next x false) (hd : o.dst = some d) (hN : d < N) (hx : ev F x = some (.p bi 0 0)) (hi : H[bi]? = some (.itr b ck seen ck)) (hH : H[b]? = some (mpO encP encT l ck)) :
    Ef P N E o F H fun F' H' => (∃ eb ex ey, (eb, (ex, ey), true) ∈ l ∧ eb ∉ seen ∧ F' = (d, .t [.c (.s (.bool true)), .a [.c (.s (.int .i64 ex)), .c (.s (.int .i64 ey))], .c (.s (.bool true))]) :: F ∧ H' = H.set bi (.itr b ck (seen ++ [eb]) ck)) ∨ ((∀ e ∈ l, e.1 ∈ seen) ∧ F' = (d, .t [.c (.s (.bool false))]) :: F ∧ H' = H) := fun S ρ a w hR => by
 refine effO_mono (fun a' w' hh => ?_) (ef_next (ke := encP) (ve := encT) ho hd hN hx hi hH hok.hb (Nat.le_refl _) S ρ a w hR)
 obtain ⟨S', ρ', F', H', hk, hR'⟩ := hh
 refine ⟨S', ρ', F', H', ?_, hR'⟩
 rcases hk with ⟨⟨eb, ⟨ex, ey⟩, v⟩, h1, h2, h3, h4⟩ | h
 ·obtain rfl : v = true := hok.hv _ h1
  exact .inl ⟨eb, ex, ey, h1, h2, h3, h4⟩
 ·exact .inr h
theorem rd_entryP {bi b ck eb : Nat} {ex ey : Int} {seen : List Nat} {l : SE} {L : List Spot} (hok : SetOk l ck L) (ho : o.op = .entry x) (hx : ev F x = some (.p bi 0 0)) (hi : H[bi]? = some (.itr b ck (seen ++ [eb]) ck)) (hH : H[b]? = some (mpO encP encT l ck)) (he : (eb, (ex, ey), true) ∈ l) :
    Rd P N E o F H (.t [.a [.c (.s (.int .i64 ex)), .c (.s (.int .i64 ey))], .c (.s (.bool true))]) :=
 rd_entry (ke := encP) (ve := encT) (e := (eb, (ex, ey), true)) ho hx hi hH he hok.nb
theorem rd_lookP {t kt et : TypeId} {ix : Operand} {b ck : Nat} {l : SE} {L : List Spot} {p q : Int} (hok : SetOk l ck L) (hk : KeyOk P kt encP) (ho : o.op = .lookup t x ix false) (ht : P.underlying t = some (.map kt et)) (hz : (P.info? et).bind (·.zero) = some (.bool false))
    (hx : ev F x = some (.mp b)) (hH : H[b]? = some (mpO encP encT l ck)) (hi : ev F ix = some (.a [.c (.s (.int .i64 p)), .c (.s (.int .i64 q))])) : Rd P N E o F H (.c (.s (.bool (decide ((p, q) ∈ L))))) := by
 have := rd_lookup (N := N) (E := E) (ke := encP) (ve := encT) (k := (p, q)) (z := false) hk ho ht hz hx hH hi (fun ρ H => by simp [AV.den, AV.denL, CV.den, encP])
 rw [hok.get] at this
 exact this
theorem ef_setP {t kt et : TypeId} {ix y : Operand} {b ck : Nat} {l : SE} {p q : Int} (hk : KeyOk P kt encP) (ho : o.op = .mapUpdate t x ix y) (hd : o.dst = none) (ht : P.underlying t = some (.map kt et))
    (hx : ev F x = some (.mp b)) (hH : H[b]? = some (mpO encP encT l ck)) (hi : ev F ix = some (.a [.c (.s (.int .i64 p)), .c (.s (.int .i64 q))])) (hy : ev F y = some (.c (.s (.bool true)))) :
    Ef P N E o F H fun F' H' => F' = F ∧ H' = H.set b (mpO encP encT (mset ck (p, q) true l) (mclk ck (p, q) l)) :=
 ef_mapset (ke := encP) (ve := encT) (k := (p, q)) (z := true) hk ho hd ht hx hH hi (fun ρ H => by simp [AV.den, AV.denL, CV.den, encP]) hy (fun ρ H => rfl)
end
end Go.Proofs.YtfilfijammemfaaGreatDoor

/- The reference's sets of spots, by value: setOf, span. -/
-- NEWM
namespace Go.Proofs.YtfilfijammemfaaGreatDoor
open Go Go.RowKit
set_option maxRecDepth 100000
theorem chkJ (b : Bool) (z : Int) (w : World) : (Instr.checkKey b 9999 3 (.int .i64 z)).run Tryz.prog w = .ok () w := by
 rw [show (9999 : Nat) = 9998 + 1 from rfl, Instr.checkKey]
 simp only [Sem.run_bind, mp_under Tryz.underlying3, Result.andThen_ok]
 rfl
theorem keySpoe (a b c d : Int) (w : World) : (Op.equal 87 (.agg #[.int .i64 a, .int .i64 b]) (.agg #[.int .i64 c, .int .i64 d])).run Tryz.prog w = .ok (a == c && b == d) w := by
 have u3 := Tryz.underlying3
 have a3 := Tryz.isAgg3
 have z3 := Tryz.sizeOf3
 have hS : Tryz.prog.underlying 87 = some (.struct (Tryz.prog.fieldsOf 87)) := by kernel_rfl
 have hp : Tryz.prog.stoodInHeld 87 = false := by kernel_rfl
 unfold Op.equal Op.maxDepth
 rw [show (10000 : Nat) = 9999 + 1 from rfl, run_equalIn_agg w 9999 87 _ _ hS hp]
 simp only [Program.fieldsOf, Tryz.underlying87]
 go_simp
 by_cases h1 : a = c <;> by_cases h2 : b = d <;> simp [h1, h2]
theorem keySpoc (em : Bool) (a b : Int) (w : World) : (Instr.checkKey em 10000 87 (.agg #[.int .i64 a, .int .i64 b])).run Tryz.prog w = .ok () w := by
 have u3 := Tryz.underlying3
 have a3 := Tryz.isAgg3
 have z3 := Tryz.sizeOf3
 have hc := chkJ em
 rw [show (10000 : Nat) = 9999 + 1 from rfl, Instr.checkKey]
 simp only [Sem.run_bind, mp_under Tryz.underlying87, Result.andThen_ok]
 go_simp
theorem keyP : KeyOk Tryz.prog 87 encP := by
 refine .ask Tryz.underlying87 (fun _ _ => rfl) (fun a b w => ?_) (fun b a w => keySpoc _ _ _ w) (fun a => ?_)
 ·simp only [encP]
  rw [keySpoe]
  congr 1
  rw [Bool.eq_iff_iff]
  obtain ⟨a1, a2⟩ := a
  obtain ⟨b1, b2⟩ := b
  simp
 ·simp [encP, Instr.sameBits]
theorem rin_v (n lo hi : Int) : ACalls Tryz.prog 48 [.c (I n), .c (I lo), .c (I hi)] [] fun u H => u = .c (B (!outB n lo hi)) ∧ H = [] := by
 refine acalls_of (N := 15) Tryz.func48 rfl rfl (by simp) fun E hE => ?_
 by_cases h1 : lo ≤ n
 ·repeat' (first
   | (with_reducible refine aw_seq ?_) | (with_reducible refine aseq_n ?_) | (with_reducible refine aseq_r ?_) | (with_reducible refine ablk_n ?_) | (with_reducible refine ablk_r ?_) | (with_reducible refine ablk_e ?_) | (with_reducible refine ablk_o rfl ?_) | (with_reducible refine aseq_e ?_) | (with_reducible refine aw_skip ?_) | (with_reducible refine aw_block ?_) | (with_reducible refine aw_ret ?_) | (with_reducible refine aw_exit ?_)
   | refine aw_cond_t rfl ?_ | refine aw_cond_f rfl ?_ | refine aw_if_t rfl (by assumption) ?_ | refine aw_if_f rfl (by assumption) ?_ | refine aw_if rfl (fun _ => ?_) (fun _ => ?_) | refine aw_cond rfl (fun _ => ?_) (fun _ => ?_)
   | (refine aw_region ?_; refine WE ?_))
  all_goals (refine aret_1 [] _ rfl rfl rfl (by decide) (ZNK rfl) (fun _ => .nil) ⟨congrArg (fun z => AV.c (B z)) ?_, rfl⟩)
  all_goals (unfold outB; rw [Bool.eq_iff_iff]; simp; try omega)
 ·repeat' (first
   | (with_reducible refine aw_seq ?_) | (with_reducible refine aseq_n ?_) | (with_reducible refine aseq_r ?_) | (with_reducible refine ablk_n ?_) | (with_reducible refine ablk_r ?_) | (with_reducible refine ablk_e ?_) | (with_reducible refine ablk_o rfl ?_) | (with_reducible refine aseq_e ?_) | (with_reducible refine aw_skip ?_) | (with_reducible refine aw_block ?_) | (with_reducible refine aw_ret ?_) | (with_reducible refine aw_exit ?_)
   | refine aw_cond_t rfl ?_ | refine aw_cond_f rfl ?_ | refine aw_if_t rfl (by assumption) ?_ | refine aw_if_f rfl (by assumption) ?_ | refine aw_if rfl (fun _ => ?_) (fun _ => ?_) | refine aw_cond rfl (fun _ => ?_) (fun _ => ?_)
   | (refine aw_region ?_; refine WE ?_))
  all_goals (refine aret_1 [] _ rfl rfl rfl (by decide) (ZNK rfl) (fun _ => .nil) ⟨congrArg (fun z => AV.c (B z)) ?_, rfl⟩)
  all_goals (unfold outB; rw [Bool.eq_iff_iff]; simp; try omega)
theorem rstep_v (st : Int) : ACalls Tryz.prog 46 [.c (I st)] [] fun u H => u = .c (I (if stepB st = true then 1 else 0)) ∧ H = [] := by
 obtain ⟨b1, h1⟩ : ∃ q, outB st 2 10000 = q := ⟨_, rfl⟩
 have hb : stepB st = (b1 || decide (st.tmod 2 ≠ 0)) := by rw [← h1]; rfl
 rw [hb]
 refine acalls_of (N := 11) Tryz.func46 rfl rfl (by simp) fun E hE => ?_
 cases b1 with
 | true =>
  refine WA ?_
  refine WR ?_
  refine al_ef rfl (ef_call0 false (fun _ => rin_v _ _ _) rfl .fn rfl (by decide) (by kernel_rfl) rfl (fun _ => C0 rfl) (by simp)) ?_
  rintro _ _ ⟨_, _, _, ⟨rfl, rfl⟩, hF, hH⟩
  rw [h1] at hF
  (refine NST hF hH ?_; clear hF hH; rintro rfl rfl)
  refine WE ?_
  refine aw_cond_t rfl ?_
  refine WA ?_
  exact aret_1 [] _ rfl rfl rfl (by decide) (ZNK rfl) (fun _ => .nil) ⟨rfl, rfl⟩
 | false =>
  refine WA ?_
  refine WR ?_
  refine al_ef rfl (ef_call0 false (fun _ => rin_v _ _ _) rfl .fn rfl (by decide) (by kernel_rfl) rfl (fun _ => C0 rfl) (by simp)) ?_
  rintro _ _ ⟨_, _, _, ⟨rfl, rfl⟩, hF, hH⟩
  rw [h1] at hF
  (refine NST hF hH ?_; clear hF hH; rintro rfl rfl)
  refine WE ?_
  refine aw_if rfl (fun h2 => ?_) (fun h2 => ?_)
  ·refine WA ?_
   exact aret_1 [] _ rfl rfl rfl (by decide) (ZNK rfl) (fun _ => .nil) ⟨congrArg (fun z => AV.c (I z)) (by simp [h2]), rfl⟩
  ·refine ZZ ?_
   refine WA ?_
   exact aret_1 [] _ rfl rfl rfl (by decide) (ZNK rfl) (fun _ => .nil) ⟨congrArg (fun z => AV.c (I z)) (by simp [h2]), rfl⟩
theorem aret_m {P : Program} {fn : Func} {nl q b b' : Nat} {F : Fm} {H : List OB} {Qr : AV → List OB → Prop} {z : AV} (m : List (Option Nat)) (H' : (AV → Value) → List OB) (hr : fn.results = #[.tmp q]) (h : F.lookup q = some z) (hz : z = .mp b) (hb : m[b']? = some (some b)) (hm : (m.filterMap id).Nodup) (hl : ∀ i, i < nl → m[i]? = some (some i)) (hH : ∀ g, CvH g m H true m (H' g)) (hq : ∀ g, Qr (.mp b') (H' g)) : ARet P fn nl Qr .ret F H := by
 subst hz
 exact aret_of m (fun _ => .mp b') H' (by rw [hr]; exact .tmp h .nil) hm hl (fun _ => .mp hb) hH hq
theorem tdiv_bd {x s M : Int} (hs : 1 ≤ s) (hx : -M ≤ x ∧ x ≤ M) : -M ≤ x.tdiv s ∧ x.tdiv s ≤ M := by
 have h : (x.tdiv s).natAbs = x.natAbs / s.natAbs := Int.natAbs_tdiv x s
 have h2 : x.natAbs / s.natAbs ≤ x.natAbs := Nat.div_le_self _ _
 generalize x.natAbs / s.natAbs = q at h h2
 omega
set_option maxHeartbeats 1000000 in
theorem setof_v (va : Value) (c : Cel) (hst : 1 ≤ c.st) (hx : -1000000000000 ≤ c.x ∧ c.x ≤ 1000000000000) (hy : -1000000000000 ≤ c.y ∧ c.y ≤ 1000000000000) (hl : c.rows.length ≤ 1000000000) (hr : ∀ r ∈ c.rows, r.length ≤ 1000000000 ∧ okB2 r = true) : ACalls Tryz.prog 49 [celA va c] [] fun u H => ∃ es ck, SetOk es ck (covL c) ∧ u = .mp 0 ∧ H = [mpO encP encT es ck] := by
 have hX := tdiv_bd hst hx
 have hY := tdiv_bd hst hy
 have e1 : (tR c.rows).length = c.rows.length := by simp
 refine acalls_of (N := 43) Tryz.func49 rfl rfl (by simp) fun E hE => ?_
 refine WA ?_
 refine ZR ?_
 refine al_ef rfl (ef_mkmap rfl rfl (by decide)) ?_
 rintro _ _ ⟨rfl, rfl⟩
 refine WE ?_
 refine WA ?_
 refine aw_loopw (fun m F H => ∃ (i : Nat) (es : SE) (ck : Nat), m + i = c.rows.length ∧ SetOk es ck (hitC (c.x.tdiv c.st) (c.y.tdiv c.st) (c.rows.take i)) ∧ F = [(1, .p 0 0 0), (3, .mp 1), (9, .c (.r va (tR c.rows))), (10, .c (I (tR c.rows).length)), (11, .c (I i))] ∧ H = [celB va c, mpO encP encT es ck]) ?_ ?_
 ·refine wk_of [some 0, some 1] (fun _ => [(1, .p 0 0 0), (3, .mp 1), (9, .c (.r va (tR c.rows))), (10, .c (I (tR c.rows).length)), (11, .c (I (0 : Nat)))]) (fun _ => [celB va c, mpO encP encT [] 0]) (by decide) (ZNL hE) ZCF ZCH (fun _ => ?_)
  exact ⟨c.rows.length, 0, [], 0, by omega, by rw [List.take_zero]; exact .nil, rfl, rfl⟩
 rintro m F H ⟨i, es, ck, hi, hes, rfl, rfl⟩
 refine WA ?_
 refine aw_if rfl (fun hlt => ?_) (fun hge => ?_)
 ·obtain ⟨r, hri⟩ : ∃ r, c.rows[i]? = some r := ⟨_, List.getElem?_eq_getElem (by omega)⟩
  have hrow : (tR c.rows)[i]? = some [T r] := by rw [List.getElem?_map, hri]; rfl
  obtain ⟨hrl, hrb⟩ := hr r (List.mem_of_getElem? hri)
  have htk : c.rows.take (i + 1) = c.rows.take i ++ [r] := by rw [List.take_add_one, hri]; rfl
  have hil : (c.rows.take i).length = i := by rw [List.length_take]; omega
  have hnx : ∀ k, k ≤ r.length → hitC (c.x.tdiv c.st) (c.y.tdiv c.st) (c.rows.take i ++ [r.take k]) = hitC (c.x.tdiv c.st) (c.y.tdiv c.st) (c.rows.take i) ++ hitR (c.x.tdiv c.st) (c.y.tdiv c.st + (i : Nat)) (r.take k) := fun k hk => by
   rw [hitC_append, hil]; simp [hitC]
  refine WA ?_
  refine ZR ?_
  refine WX1 ?_
  refine al_ef rfl (ef_ranges (l := r) rfl rfl (by decide) Tryz.underlying9 rfl) ?_
  rintro _ _ ⟨rfl, rfl⟩
  refine WE ?_
  refine aw_loopw (fun m2 F H => ∃ (k : Nat) (es : SE) (ck : Nat), m2 + k = r.length ∧ SetOk es ck (hitC (c.x.tdiv c.st) (c.y.tdiv c.st) (c.rows.take i ++ [r.take k])) ∧ F = [(1, .p 0 0 0), (3, .mp 1), (4, .c (I i)), (5, .c (T r)), (9, .c (.r va (tR c.rows))), (10, .c (I (tR c.rows).length)), (11, .c (I i)), (17, .p 2 0 0)] ∧ H = [celB va c, mpO encP encT es ck, .sit (bst r) k]) ?_ ?_
  ·refine wk_of [some 0, some 1, some 2] (fun _ => [(1, .p 0 0 0), (3, .mp 1), (4, .c (I i)), (5, .c (T r)), (9, .c (.r va (tR c.rows))), (10, .c (I (tR c.rows).length)), (11, .c (I i)), (17, .p 2 0 0)]) (fun _ => [celB va c, mpO encP encT es ck, .sit (bst r) 0]) (by decide) (ZNL hE) ZCF ZCH (fun _ => ?_)
   exact ⟨r.length, 0, es, ck, by omega, by rw [hnx 0 (by omega), List.take_zero, hitR, List.append_nil]; exact hes, rfl, rfl⟩
  clear hes es ck
  rintro m2 F H ⟨k, es, ck, hk, hes, rfl, rfl⟩
  by_cases hkl : k < r.length
  ·obtain ⟨b, hb⟩ : ∃ b, r[k]? = some b := ⟨_, List.getElem?_eq_getElem hkl⟩
   have hb2 : b = 35 ∨ b = 46 := by
    have := List.all_eq_true.1 hrb b (List.mem_of_getElem? hb)
    simpa using this
   have hb8 : b < 128 := by rcases hb2 with rfl | rfl <;> decide
   have hrk : r.take (k + 1) = r.take k ++ [b] := by rw [List.take_add_one, hb]; rfl
   have hkl2 : (r.take k).length = k := by rw [List.length_take]; omega
   refine ZR ?_
   refine al_ef rfl (ef_nexts (l := r) (b := b) rfl rfl (by decide) rfl rfl hb hb8) ?_
   rintro _ _ ⟨rfl, rfl⟩
   refine WE ?_
   refine aw_cond_t rfl ?_
   refine WA ?_
   refine ZR ?_
   iterate 2 refine WX1 ?_
   refine ZA (rd_idxs (i := k) rfl Tryz.underlying9 rfl rfl rfl hb) ?_
   refine WE ?_
   refine aw_if rfl (fun h35 => ?_) (fun h35 => ?_)
   ·obtain rfl : b = 35 := by rcases hb2 with rfl | rfl; rfl; exact absurd h35 (by decide)
    have hs := hes.set (c.x.tdiv c.st + (k : Nat), c.y.tdiv c.st + (i : Nat))
    refine ZZ ?_
    refine aw_regionT [(0, none), (1, none), (2, none), (3, none), (4, none), (5, none), (6, none), (7, none), (8, none), (9, none), (10, none), (11, none), (12, none), (13, none), (14, none), (15, none), (16, some [])] hMixed (by kernel_rfl) ?_
    iterate 16 refine WX2 ?_
    refine at_ef rfl rfl (ef_mapset (ke := encP) (ve := encT) (k := (c.x.tdiv c.st + (k : Nat), c.y.tdiv c.st + (i : Nat))) (z := true) (l := es) (ck := ck) keyP rfl rfl Tryz.underlying90 rfl rfl rfl (fun ρ H => by simp [AV.den, AV.denL, CV.den, encP]) rfl (fun ρ H => rfl)) ?_
    rintro _ _ ⟨rfl, rfl⟩
    refine ⟨ag_none, ?_⟩
    refine WQ ?_
    refine wk_of [some 0, some 1, some 2] (fun _ => [(1, .p 0 0 0), (3, .mp 1), (4, .c (I i)), (5, .c (T r)), (9, .c (.r va (tR c.rows))), (10, .c (I (tR c.rows).length)), (11, .c (I i)), (17, .p 2 0 0)]) (fun _ => [celB va c, mpO encP encT (mset ck (c.x.tdiv c.st + (k : Nat), c.y.tdiv c.st + (i : Nat)) true es) (mclk ck (c.x.tdiv c.st + (k : Nat), c.y.tdiv c.st + (i : Nat)) es), .sit (bst r) (k + 1)]) (by decide) (ZNL hE) ZCF ZCH (fun _ => ?_)
    exact ⟨m2 - 1, by omega, k + 1, _, _, by omega, by rw [hnx _ (by omega), hrk, hitR_append, hkl2, ← List.append_assoc, ← hnx k (by omega)]; simpa [hitR] using hs, rfl, rfl⟩
   ·obtain rfl : b = 46 := by rcases hb2 with rfl | rfl; exact absurd rfl h35; rfl
    refine ZZ ?_
    refine wk_of [some 0, some 1, some 2] (fun _ => [(1, .p 0 0 0), (3, .mp 1), (4, .c (I i)), (5, .c (T r)), (9, .c (.r va (tR c.rows))), (10, .c (I (tR c.rows).length)), (11, .c (I i)), (17, .p 2 0 0)]) (fun _ => [celB va c, mpO encP encT es ck, .sit (bst r) (k + 1)]) (by decide) (ZNL hE) ZCF ZCH (fun _ => ?_)
    exact ⟨m2 - 1, by omega, k + 1, es, ck, by omega, by rw [hnx _ (by omega), hrk, hitR_append, hkl2, ← List.append_assoc, ← hnx k (by omega)]; simpa [hitR] using hes, rfl, rfl⟩
  obtain rfl : k = r.length := by omega
  rw [List.take_length, ← htk] at hes
  refine ZR ?_
  refine al_ef rfl (ef_nexte (l := r) rfl rfl (by decide) rfl rfl (Nat.le_refl _)) ?_
  rintro _ _ ⟨rfl, rfl⟩
  refine WE ?_
  refine aw_cond_f rfl ?_
  refine ZZ ?_
  refine WA ?_
  refine wk_of [some 0, some 1] (fun _ => [(1, .p 0 0 0), (3, .mp 1), (9, .c (.r va (tR c.rows))), (10, .c (I (tR c.rows).length)), (11, .c (I (i + 1 : Nat)))]) (fun _ => [celB va c, mpO encP encT es ck]) (by decide) (ZNL hE) ZCF ZCH (fun _ => ?_)
  exact ⟨m - 1, by omega, i + 1, es, ck, by omega, hes, rfl, rfl⟩
 obtain rfl : i = c.rows.length := by omega
 rw [List.take_length] at hes
 refine ZZ ?_
 refine WA ?_
 exact aret_m (b' := 0) [some 1] (fun _ => [mpO encP encT es ck]) rfl rfl rfl rfl (by decide) (ZNK rfl) ZCH (fun _ => ⟨es, ck, hes, rfl, rfl⟩)
end Go.Proofs.YtfilfijammemfaaGreatDoor

/- What is wrong with paths that cover, by value: the reference's WaysFault. -/
-- NEWM
namespace Go.Proofs.YtfilfijammemfaaGreatDoor
open Go Go.RowKit
set_option maxRecDepth 100000
end Go.Proofs.YtfilfijammemfaaGreatDoor
