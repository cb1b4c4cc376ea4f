/- Slices with further bounds; nil slices; clear. -/
import Derived.Test.YtniolldgidgffaaGreatDoorQam
import Derived.Laws.Cover3
set_option linter.unusedSimpArgs false
set_option linter.unusedVariables false
/- Short forms of the steps: what each asks for besides is found by its own tactic. -/
namespace Go.Proofs.YtniolldgidgffaaGreatDoor
open Go Go.RowKit
section
variable {P : Program} {N : Nat} {E : Env} {F : Fm} {H : List OB} {o : Oper} {Q : Exit → Fm → List OB → Prop} {ops : Array Oper} {rest : List Oper}
theorem ZA {d : Nat} {x : AV} (hr : Rd P N E o F H x) (h : AL P N E ops rest ((d, x) :: F) H Q) (hg : o.guard = none := by exact rfl) (hd : o.dst = some d := by exact rfl) (hN : d < N := by decide) : AL P N E ops (o :: rest) F H Q := al_rd hg hd hN hr h
theorem ZT {i d : Nat} {x : AV} {L : List (Nat × Option (List Nat))} (ho : ops[i]? = some o) (hr : Rd P N E o F H x) (h : AT P N E ops L ((d, x) :: F) H Q) (hg : o.guard = none := by exact rfl) (hd : o.dst = some d := by exact rfl) (hN : d < N := by decide) : AT P N E ops ((i, none) :: L) F H Q := at_rd ho hg hd hN hr h
theorem ZP {d : Nat} {x : AV} (hr : Rd P N E { o with guard := none } F H x) (h : AL P N E ops rest ((d, x) :: F) H Q) (hg : gd ops o F = some true := by exact rfl) (hd : o.dst = some d := by exact rfl) (hN : d < N := by decide) : AL P N E ops (o :: rest) F H Q := G1 hg (al_rd (o := { o with guard := none }) rfl hd hN hr h)
theorem ZS {d : Nat} (h : AL P N E ops rest ((d, un) :: F) H Q) (hg : gd ops o F = some false := by exact rfl) (hd : o.dst = some d := by exact rfl) (hN : d < N := by decide) : AL P N E ops (o :: rest) F H Q := G2 hg hd hN h
theorem ZU {i d : Nat} {v : AV} {L : List (Nat × Option (List Nat))} (ho : ops[i]? = some o) (hr : Rd P N E o F H v) (k : AT P N E ops L ((d, v) :: F) H Q) (hg : gd ops o F = some true := by exact rfl) (hd : o.dst = some d := by exact rfl) (hN : d < N := by decide) : AT P N E ops ((i, none) :: L) F H Q := G3 ho hg hd hN hr k
theorem ZV {i d : Nat} {L : List (Nat × Option (List Nat))} (k : AT P N E ops L ((d, un) :: F) H Q) (ho : ops[i]? = some o := by exact rfl) (hg : gd ops o F = some false := by exact rfl) (hd : o.dst = some d := by exact rfl) (hN : d < N := by decide) : AT P N E ops ((i, none) :: L) F H Q := G4 ho hg hd hN k
theorem ZR {G A : Prop} (h : G) (hs : G → A := by (intro h; (repeat with_reducible first | apply S1 | apply S2 | apply S3 | apply S4 | apply S5 | apply S6 | apply S7 | apply S8 | refine S0 rfl ?_ | apply SA | apply SB | apply SC); exact aw_region h)) : A := hs h
theorem ZZ {G A : Prop} (h : G) (hs : G → A := by (intro h; (repeat with_reducible first | apply S1 | apply S2 | apply S3 | apply S4 | apply S5 | apply S6 | apply S7 | apply S8 | refine S0 rfl ?_ | apply SA | apply SB | apply SC); exact h)) : A := hs h
end
section
variable {P : Program} {N : Nat} {E : Env} {F : Fm} {H : List OB} {o : Oper} {t e yt : TypeId} {x y : Operand} {sz : Nat}
theorem ZL {v z : AV} {cs cs' : List AV} (ht : ldk P t = some none) (ho : o.op = .load t x := by exact rfl) (hx : ev F x = some v := by exact rfl) (hc : Cells H v cs := by first | exact CB rfl | exact CQ | exact CA rfl (by first | assumption | (rw [Nat.zero_add]; assumption))) (hn : cs = z :: cs' := by (try simp only [nm, putL, Nat.reduceAdd, cellsOf, cvOf]) <;> rfl) : Rd P N E o F H z := rd_loadn1 ho ht hx hc hn
theorem ZK {v : AV} {cs cs' : List AV} {k : Nat} (ht : ldk P t = some (some k)) (ho : o.op = .load t x := by exact rfl) (hx : ev F x = some v := by exact rfl) (hc : Cells H v cs := by first | exact CB rfl | exact CQ | exact CA rfl (by first | assumption | (rw [Nat.zero_add]; assumption))) (hn : cs.take k = cs' := by (try simp only [nm, putL, Nat.reduceAdd, cellsOf, cvOf]) <;> rfl) (hl : k ≤ cs.length := by simp) : Rd P N E o F H (.a cs') := rd_loadn ho ht hx hc hn hl
theorem ZX {f off : Nat} {v : AV} (ht : fieldOff P t f = some off) (ho : o.op = .fieldAddr t x f := by exact rfl) (h : fldC off (ev F x) = some v := by exact rfl) : Rd P N E o F H v := rd_fx ho ht h
theorem Zlss {kd : IntKind} {m n : Int} {b : Bool} (ho : o.op = .binOp .lss t x y yt := by exact rfl) (hx : ev F x = some (.c (.s (.int kd m))) := by exact rfl) (hy : ev F y = some (.c (.s (.int kd n))) := by exact rfl) (hb : decide (m < n) = b := by first | exact decide_eq_true (by omega) | exact decide_eq_false (by omega) | exact rfl) : Rd P N E o F H (.c (.s (.bool b))) := by subst hb; exact rd_lss ho hx hy
theorem Zleq {kd : IntKind} {m n : Int} {b : Bool} (ho : o.op = .binOp .leq t x y yt := by exact rfl) (hx : ev F x = some (.c (.s (.int kd m))) := by exact rfl) (hy : ev F y = some (.c (.s (.int kd n))) := by exact rfl) (hb : decide (m ≤ n) = b := by first | exact decide_eq_true (by omega) | exact decide_eq_false (by omega) | exact rfl) : Rd P N E o F H (.c (.s (.bool b))) := by subst hb; exact rd_leq ho hx hy
theorem Zgtr {kd : IntKind} {m n : Int} {b : Bool} (ho : o.op = .binOp .gtr t x y yt := by exact rfl) (hx : ev F x = some (.c (.s (.int kd m))) := by exact rfl) (hy : ev F y = some (.c (.s (.int kd n))) := by exact rfl) (hb : decide (n < m) = b := by first | exact decide_eq_true (by omega) | exact decide_eq_false (by omega) | exact rfl) : Rd P N E o F H (.c (.s (.bool b))) := by subst hb; exact rd_gtr ho hx hy
theorem Zgeq {kd : IntKind} {m n : Int} {b : Bool} (ho : o.op = .binOp .geq t x y yt := by exact rfl) (hx : ev F x = some (.c (.s (.int kd m))) := by exact rfl) (hy : ev F y = some (.c (.s (.int kd n))) := by exact rfl) (hb : decide (n ≤ m) = b := by first | exact decide_eq_true (by omega) | exact decide_eq_false (by omega) | exact rfl) : Rd P N E o F H (.c (.s (.bool b))) := by subst hb; exact rd_geq ho hx hy
theorem Zeql {kd : IntKind} {m n : Int} {b : Bool} (ho : o.op = .binOp .eql t x y yt := by exact rfl) (hx : ev F x = some (.c (.s (.int kd m))) := by exact rfl) (hy : ev F y = some (.c (.s (.int kd n))) := by exact rfl) (hb : decide (m = n) = b := by first | exact decide_eq_true (by omega) | exact decide_eq_false (by omega) | exact rfl) : Rd P N E o F H (.c (.s (.bool b))) := by subst hb; exact rd_eql ho hx hy
theorem Zneq {kd : IntKind} {m n : Int} {b : Bool} (ho : o.op = .binOp .neq t x y yt := by exact rfl) (hx : ev F x = some (.c (.s (.int kd m))) := by exact rfl) (hy : ev F y = some (.c (.s (.int kd n))) := by exact rfl) (hb : decide (m ≠ n) = b := by first | exact decide_eq_true (by omega) | exact decide_eq_false (by omega) | exact rfl) : Rd P N E o F H (.c (.s (.bool b))) := by subst hb; exact rd_neq ho hx hy
theorem Zwr {z : Int} (h : -9223372036854775808 ≤ z ∧ z ≤ 9223372036854775807) : wrap64 z = z := IntWalk.wrap64_in z h
theorem Zadd {m n r : Int} (ho : o.op = .binOp .add t x y yt := by exact rfl) (hx : ev F x = some (.c (.s (.int .i64 m))) := by exact rfl) (hy : ev F y = some (.c (.s (.int .i64 n))) := by exact rfl) (hr : wrap64 (m + n) = r := by first | exact Zwr (by omega) | exact rfl) : Rd P N E o F H (.c (.s (.int .i64 r))) := by subst hr; exact rd_add ho hx hy
theorem Zsub {m n r : Int} (ho : o.op = .binOp .sub t x y yt := by exact rfl) (hx : ev F x = some (.c (.s (.int .i64 m))) := by exact rfl) (hy : ev F y = some (.c (.s (.int .i64 n))) := by exact rfl) (hr : wrap64 (m - n) = r := by first | exact Zwr (by omega) | exact rfl) : Rd P N E o F H (.c (.s (.int .i64 r))) := by subst hr; exact rd_sub ho hx hy
theorem Zmul {m n r : Int} (ho : o.op = .binOp .mul t x y yt := by exact rfl) (hx : ev F x = some (.c (.s (.int .i64 m))) := by exact rfl) (hy : ev F y = some (.c (.s (.int .i64 n))) := by exact rfl) (hr : wrap64 (m * n) = r := by first | exact Zwr (by omega) | exact rfl) : Rd P N E o F H (.c (.s (.int .i64 r))) := by subst hr; exact rd_mul ho hx hy
theorem Zquo {m n : Int} (ho : o.op = .binOp .quo t x y yt := by exact rfl) (hx : ev F x = some (.c (.s (.int .i64 m))) := by exact rfl) (hy : ev F y = some (.c (.s (.int .i64 n))) := by exact rfl) (h : 0 ≤ m ∧ m ≤ 9223372036854775807 ∧ 1 ≤ n := by omega) : Rd P N E o F H (.c (.s (.int .i64 (m / n)))) := rd_quon ho hx hy h
theorem Zqut {m n : Int} (ho : o.op = .binOp .quo t x y yt := by exact rfl) (hx : ev F x = some (.c (.s (.int .i64 m))) := by exact rfl) (hy : ev F y = some (.c (.s (.int .i64 n))) := by exact rfl) (h : -9223372036854775807 ≤ m ∧ m ≤ 9223372036854775807 ∧ 1 ≤ n := by omega) : Rd P N E o F H (.c (.s (.int .i64 (m.tdiv n)))) := by
 have h1 := rd_quo (P := P) (N := N) (E := E) (H := H) ho hx hy (by omega)
 have hq : (m.tdiv n).natAbs ≤ m.natAbs := Int.natAbs_tdiv_le_natAbs m n
 rwa [show wrap64 (m.tdiv n) = m.tdiv n from IntWalk.wrap64_in _ (by constructor <;> omega)] at h1
theorem Zquw {m n : Int} (ho : o.op = .binOp .quo t x y yt := by exact rfl) (hx : ev F x = some (.c (.s (.int .i64 m))) := by exact rfl) (hy : ev F y = some (.c (.s (.int .i64 n))) := by exact rfl) (h : n ≠ 0 := by omega) : Rd P N E o F H (.c (.s (.int .i64 (wrap64 (m.tdiv n))))) := rd_quo ho hx hy h
theorem Zrem {m n : Int} (ho : o.op = .binOp .rem t x y yt := by exact rfl) (hx : ev F x = some (.c (.s (.int .i64 m))) := by exact rfl) (hy : ev F y = some (.c (.s (.int .i64 n))) := by exact rfl) (h : 0 ≤ m ∧ 1 ≤ n := by omega) : Rd P N E o F H (.c (.s (.int .i64 (m % n)))) := rd_remn ho hx hy h
theorem Zrew {m n : Int} (ho : o.op = .binOp .rem t x y yt := by exact rfl) (hx : ev F x = some (.c (.s (.int .i64 m))) := by exact rfl) (hy : ev F y = some (.c (.s (.int .i64 n))) := by exact rfl) (h : n ≠ 0 := by omega) : Rd P N E o F H (.c (.s (.int .i64 (m.tmod n)))) := rd_rem ho hx hy h
theorem Zbld {ps : Array (Nat × Operand)} {z : Value} {vs : List Value} {pl : List (Nat × Nat)} {l' : List AV} (ho : o.op = .build t ps) (hz : (P.info? t).bind (·.zero) = some z) (hc : z.cells = vs.toArray) (hpl : bplaces P t = some pl) (hb : BParts F pl ps.toList (vs.map fun v => .c (cvOf v)) l') : Rd P N E o F H (.a l') := rd_build ho hz hc hpl hb
theorem Zbc {i off k : Nat} {v : AV} {pl : List (Nat × Nat)} {ps : List (Nat × Operand)} {l l1 l2 : List AV} (h : ev F x = some v := by exact rfl) (hp : pl[i]? = some (off, k) := by exact rfl) (hk : (cellsOf v).length = k := by exact rfl) (hl : off + k ≤ l.length := by simp) (h1 : (cellsOf v).all AV.one = true := by exact rfl) (he : putL l off (cellsOf v) = l1 := by (try simp only [nm, putL, Nat.reduceAdd, cellsOf, cvOf]) <;> rfl) (z : BParts F pl ps l1 l2) : BParts F pl ((i, x) :: ps) l l2 := .cons h hp hk hl h1 he z
theorem Zbox {d b : Nat} {v : AV} {l : List AV} {H2 : List OB} (ho : o.op = .box t x := by exact rfl) (hd : o.dst = some d := by exact rfl) (hN : d < N := by decide) (hx : ev F x = some v := by exact rfl) (hl : cellsOf v = l := by (try simp only [nm, putL, Nat.reduceAdd, cellsOf, cvOf]) <;> rfl) (h1 : l.all AV.one = true := by exact rfl) (hb : H.length = b := by (try simp only [nm, putL, Nat.reduceAdd, cellsOf, cvOf]) <;> rfl) (hH : H ++ [.box l] = H2 := by (try simp only [nm, putL, Nat.reduceAdd, cellsOf, cvOf]) <;> rfl) : Ef P N E o F H fun F' H' => F' = (d, .p b 0 0) :: F ∧ H' = H2 := ef_boxn ho hd hN hx hl h1 hb hH
theorem Zmak {d by_ l c b : Nat} {kx ky : IntKind} {z : Value} {vs : List Value} {zx zy : Int} {H2 : List OB} (ht : P.underlying t = some (.slice e)) (hi : (P.info? e).map (fun i => (i.zero, i.size, i.bytes)) = some (some z, sz, by_)) (ho : o.op = .makeSlice t x y := by exact rfl) (hd : o.dst = some d := by exact rfl) (hN : d < N := by decide) (hx : ev F x = some (.c (.s (.int kx zx))) := by exact rfl) (hzx : zx = l := by first | rfl | omega) (hy : ev F y = some (.c (.s (.int ky zy))) := by exact rfl) (hzy : zy = c := by first | rfl | omega) (hlc : l ≤ c := by omega) (hb' : by_ * c ≤ 281474976710656 := by omega) (hc : c ≤ 281474976710656 := by omega) (hvs : z.cells = vs.toArray := by exact rfl) (hsz : vs.length = sz := by exact rfl) (h1 : vs.all Value.oneCell' = true := by exact rfl) (hb : H.length = b := by (try simp only [nm, putL, Nat.reduceAdd, cellsOf, cvOf]) <;> rfl) (hH : H ++ [.arr e sz c (List.replicate c (vs.map cvOf))] = H2 := by (try simp only [nm, putL, Nat.reduceAdd, cellsOf, cvOf]) <;> rfl) : Ef P N E o F H fun F' H' => F' = (d, .o b 0 l c) :: F ∧ H' = H2 := ef_maken ho hd hN ht hi hx hzx hy hzy hlc hb' hc hvs hsz h1 hb hH
theorem Zapp {d b k cap j : Nat} {v : AV} {rows news : List (List CV)} {F2 H2 : (AV → Value) → Nat → _} (hE : ElemTy P t e sz) (ho : o.op = .call { callee := .builtin .append, args := #[x, y], argTypes := #[t, t] } := by exact rfl) (hd : o.dst = some d := by exact rfl) (hN : d < N := by decide) (hs : ev F x = some (.o b 0 k cap) := by exact rfl) (hH : H[b]? = some (.arr e sz cap rows) := by exact rfl) (hn : k = rows.length := by first | rfl | simp | (simp; omega)) (hx : ev F y = some v := by exact rfl) (hsrc : Src H sz v news := by first | exact Src.own rfl (by (try simp only [nm, putL, Nat.reduceAdd, cellsOf, cvOf]) <;> rfl) (by first | rfl | simp | (simp; omega)) | exact Src.ro (by simp) (by simp [CV.one, Value.oneCell'])) (hj : news.length = j := by (try simp only [nm, putL, Nat.reduceAdd, cellsOf, cvOf]) <;> rfl) (hle : k + j ≤ 1073741824 := by omega) (hF2 : ∀ g c2, killF g [b] F = F2 g c2 := by exact (fun _ _ => rfl)) (hH2 : ∀ g c2, (H.map (killO g [b])).set b (.arr e sz c2 (rows ++ news)) = H2 g c2 := by intro g c2; simp only [List.map_cons, List.map_nil, killO, killV, AV.has, AV.hasL, List.contains_cons, List.contains_nil, Nat.reduceBEq, Bool.or_false, Bool.false_or, Bool.false_eq_true, beq_self_eq_true, if_false, if_true, List.set_cons_zero, List.set_cons_succ, List.nil_append]; rfl) (hpin : (∃ q, E.H0.length = q ∧ Nat.ble q b = true) ∨ E.pin = false := by first | exact Or.inl ⟨_, by assumption, rfl⟩ | exact Or.inr (by assumption)) : Ef P N E o F H fun F' H' => ∃ g c2, k + j ≤ c2 ∧ F' = (d, .o b 0 (k + j) c2) :: F2 g c2 ∧ H' = H2 g c2 := ef_appn ho hd hN hE hs hH hn hx hsrc hj hle hF2 hH2 hpin
theorem ZCH {p : Prop} (h : p := by intro _g; (repeat first | exact K0 | apply K1 rfl | apply K2 rfl rfl | apply K2 rfl (by simp) | apply K3 | apply CvH.oth rfl (.map rfl) | apply CvH.oth rfl (.itr rfl rfl) | apply CvH.oth rfl (.sit rfl) | apply CvH.oth rfl (.bts rfl) | apply CvH.oth rfl .dead | refine CvH.oth rfl (.boxt ?_) ?_ | exact CvAL.nil | refine CvAL.cons ?_ ?_ | exact CvA.c rfl | exact CvA.p rfl | exact CvA.o rfl rfl | exact CvA.nil rfl | exact L0 | apply L1 | exact V1 rfl | exact V2 rfl | exact V3 rfl rfl | exact V4 | exact Cvt.mp rfl | exact V5 rfl | exact V3 rfl (by first | (simp; omega) | simp) | exact V1 (by first | (simp; omega) | simp) | exact V6 rfl rfl (by first | rfl | simp) (by simp) rfl | apply V7 | apply V8 | exact V9 (C0 (by assumption)) | apply V9); fail_if_success focus skip) : p := h
theorem ZCF {p : Prop} (h : p := by intro _g; (repeat first | exact W0 | apply W1 rfl | exact L0 | apply L1 | exact V1 rfl | exact V2 rfl | exact V3 rfl rfl | exact V4 | exact Cvt.mp rfl | exact V5 rfl | exact V3 rfl (by first | (simp; omega) | simp) | exact V1 (by first | (simp; omega) | simp) | exact V6 rfl rfl (by first | rfl | simp) (by simp) rfl | apply V7 | apply V8 | exact V9 (C0 (by assumption)) | apply V9); fail_if_success focus skip) : p := h
def okN (n : Nat) (m : List (Option Nat)) : Bool := (List.range n).all fun i => m[i]? == some (some i)
theorem ZNK {n : Nat} {m : List (Option Nat)} (h : okN n m = true) : ∀ i, i < n → m[i]? = some (some i) := fun i hi => by
 have := List.all_eq_true.1 h i (List.mem_range.2 hi)
 simpa using this
theorem ZNL {k n : Nat} {m : List (Option Nat)} (hE : k = n) (h : okN n m = true := by exact rfl) : ∀ i, i < k → m[i]? = some (some i) := fun i hi => ZNK h i (hE ▸ hi)
end
end Go.Proofs.YtniolldgidgffaaGreatDoor

/- Facts put out of sight; further results. -/
namespace Go.Proofs.YtniolldgidgffaaGreatDoor
open Go Go.RowKit
structure Hid (p : Prop) : Prop where
 out : p
section
variable {P : Program} {F : Fm} {H : List OB}
theorem aret_0 {fn : Func} {nl : Nat} {x : Exit} {Qr : AV → List OB → Prop} (m : List (Option Nat)) (H' : (AV → Value) → List OB) (hx : x = .ret ∨ x = .normal) (hr : fn.results = #[]) (hm : (m.filterMap id).Nodup) (hl : ∀ i, i < nl → m[i]? = some (some i)) (hH : ∀ g, CvH g m H true m (H' g)) (hq : ∀ g, Qr (.t []) (H' g)) : ARet P fn nl Qr x F H :=
 ⟨hx, [], by rw [hr]; exact .nil, m, fun _ => .t [], H', hm, hl, fun _ => .tL .nil, hH, hq⟩
end
end Go.Proofs.YtniolldgidgffaaGreatDoor

/- Appending to the first rows of an array of the call's own; nil slices; slices with three bounds; clear. -/
namespace Go.Proofs.YtniolldgidgffaaGreatDoor
open Go Go.RowKit
section
variable {P : Program} {N : Nat} {E : Env} {F : Fm} {H : List OB} {o : Oper} {S : Nat → Prop} {ρ : List (Option Nat)} {a : Act} {w : World}
end
end Go.Proofs.YtniolldgidgffaaGreatDoor

/- Slices with further bounds; nil slices; clear. -/
namespace Go.Proofs.YtniolldgidgffaaGreatDoor
open Go Go.RowKit
section
variable {P : Program} {N : Nat} {E : Env} {F : Fm} {H : List OB} {o : Oper} {S : Nat → Prop} {ρ : List (Option Nat)} {a : Act} {w : World} {Q : Exit → Fm → List OB → Prop}
theorem rd_indexj {t e : TypeId} {x ix : Operand} {b k n c i j sz cap : Nat} {kd : IntKind} {z : Int} {rows : List (List CV)} (ho : o.op = .indexAddr t x ix) (ht : elemSz P t = some (e, sz)) (hx : ev F x = some (.o b k n c)) (hH : H[b]? = some (.arr e sz cap rows)) (hix : ev F ix = some (.c (.s (.int kd z)))) (hz : z = i) (hi : i < n) (hj : k + i = j) :
    Rd P N E o F H (.p b j 0) := by subst hj; exact rd_index ho ht hx hH hix hz hi
def rnil : Value → Bool
 | .slice none _ _ => true
 | _ => false
theorem run_eqlnil (t e : TypeId) (A : Option Addr) (n c : Nat) (h : P.underlying t = some (.slice e)) : (Op.equal t (.slice A n c) (.slice none 0 0)).run P w = .ok A.isNone w := run_equal_slice_nil w t e A n c h
theorem rd_eqlnil {t e : TypeId} {sz : Nat} {x : Operand} {yt : TypeId} {v : Value} {rows : List (List CV)} (ho : o.op = .binOp .eql t x (.const (.slice none 0 0)) yt) (hx : ev F x = some (.c (.r v rows))) (ht : elemSz P t = some (e, sz)) : Rd P N E o F H (.c (.s (.bool (rnil v)))) := fun S ρ a w hR => by
 obtain ⟨h1, h2⟩ := hR.ev hx
 obtain ⟨hu, _⟩ := elemSz_spec ht
 refine ⟨?_, .c (.s _)⟩
 have hc : a.eval (.const (.slice none 0 0)) = .slice none 0 0 := rfl
 obtain ⟨A, n, c, hv, hn⟩ : ∃ A n c, v = .slice A n c ∧ rnil v = A.isNone := by
  cases h2 with
  | c g =>
   cases g with
   | nil A c => exact ⟨_, _, _, rfl, by cases A <;> rfl⟩
   | r => exact ⟨_, _, _, rfl, rfl⟩
 subst hv
 rw [hn]
 simp only [execOp, ho, h1, hc, AV.den, CV.den, eqGuard, binOp, Sem.run_bind, Sem.run_pure, Result.andThen_ok, run_eqlnil t e A n c hu]
 rfl
end
end Go.Proofs.YtniolldgidgffaaGreatDoor
