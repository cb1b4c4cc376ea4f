/- From the row of JobsFollowed to the table of powers of ten. -/
import Derived.Test.YtlhbfcfjepbhpaaGreatDoorQbx
import Derived.Test.YtlhbfcfjepbhpaaGreatDoorQbn
import Derived.Test.YtlhbfcfjepbhpaaGreatDoorQbo
import Derived.Test.YtlhbfcfjepbhpaaGreatDoorQbi
import Derived.Test.YtlhbfcfjepbhpaaGreatDoorQbl
import Derived.Test.YtlhbfcfjepbhpaaGreatDoorQba
import Derived.Test.YtlhbfcfjepbhpaaGreatDoorRows
import Derived.Lib.LaidTab
import Derived.Stop.LaidErr
import Derived.MakeChecks
set_option linter.unusedSimpArgs false
set_option linter.unusedVariables false
namespace Go.Proofs.YtlhbfcfjepbhpaaGreatDoor
open Go Go.RowKit
set_option maxRecDepth 100000
def xcall (P : Program) (orc : XCf) : Nat → XCf
 | 0, f, args, H, k => orc f args H k
 | n + 1, f, args, H, k => match orc f args H k with
  | some r => some r
  | none => xenter P (fun N c F H k => xcode P (xcall P orc n) 3000 N none false c F H k) f args H k
theorem callsIn_plain {P : Program} {f : FuncId} {args : Array Value} {w : World} {R : Ending → World → Prop} (h : CallsIn Fence.wide 0 P f args w R) : Calls P f args w R := callsIn_wide.1 h
theorem xcall_ok {P : Program} (hm : P.follows .mixedOrders = true) {orc : XCf} (ho : XCfOk P orc) : ∀ n, XCfOk P (xcall P orc n)
 | 0 => fun f args H k u H' k' h => ho f args H k u H' k' h
 | n + 1 => fun f args H k u H' k' h => by
  unfold xcall at h
  split at h
  ·rename_i r hr
   injection h with h
   subst h
   exact ho f args H k u H' k' hr
  ·intro w0 ρ γ w hH hok
   refine callsIn_plain (xenter_ok (n := 0) h (fun N c F e F' k2 a Q hx hR hQ => ?_) hH hok)
   exact (zi1 hm (xcall_ok hm ho n) 3000 (m := 0) (.inl ⟨rfl, rfl⟩) (fun h => by cases h) hx hR trivial hQ).1
def xnone : XCf := fun _ _ _ _ => none
theorem xnone_ok (P : Program) : XCfOk P xnone := fun f args H k u H' k' h => by cases h
def xrun (P : Program) (orc : XCf) (f : FuncId) : Option Value := match xcall P orc 60 f [] .nil 0 with
 | some (.v u, _, _) => some u
 | _ => none
theorem acalls_of_xrun {P : Program} (hm : P.follows .mixedOrders = true) {orc : XCf} (ho : XCfOk P orc) {f : FuncId} {u : Value} (h : xrun P orc f = some u) : ACalls P f [] [] fun v H => v = .c (.s u) ∧ H = [] := fun S ρ w hp hw => by
 unfold xrun at h
 split at h
 ·rename_i u' H' k' hx
  injection h with h
  subst h
  have hH : XH ⟨w, fun _ => none, []⟩ (fun _ => 0) (fun _ => 0) .nil w := ⟨fun i j o o' h => (by cases h), fun i o h => (by cases h), fun i o h => (by cases h), fun i o h => (by cases h), ⟨Stp.refl _ _, fun B ob h => (by cases h)⟩⟩
  refine (xcall_ok hm ho 60 _ _ _ _ _ _ _ hx _ _ _ w hH trivial).mono ?_
  rintro e w' ⟨ρ', γ', rfl, h1, _, _⟩
  have hρ : ρ = [] := List.eq_nil_of_length_eq_zero hp.len
  subst hρ
  have hst := h1.st
  refine ⟨.c (.s u'), [], [], S, rfl, ⟨rfl, rfl⟩, .c (.s u'), ⟨rfl, fun i i' B h => (by cases h), fun i B h => (by cases h), fun i B h => (by cases h), fun b hb => Nat.lt_of_lt_of_le (hp.sS b hb) hst.size, fun i o h => (by simp at h), PL.none fun _ _ _ => zM1⟩, ⟨hst.os, hst.tape, hst.output, hst.size, fun b hb _ => hst.block b hb (fun h => h), hst.drawn⟩, fun b hb => .inl hb, fun i B h => (by cases h), fun i k B h => absurd h zM1, fun i hi => (by simp at hi), fun h => (by cases h)⟩
 ·cases h
end Go.Proofs.YtlhbfcfjepbhpaaGreatDoor
-- NEWM
namespace Go.Proofs.YtlhbfcfjepbhpaaGreatDoor
open Go Go.RowKit
set_option maxRecDepth 1000000
theorem noted_run : xrun Tryz.prog xnone 16 = some (.bool true) := by kernel_rfl
theorem noted_a : ACalls Tryz.prog 16 [] [] fun u H => u = .c (B true) ∧ H = [] := acalls_of_xrun (by kernel_rfl) (xnone_ok _) (u := .bool true) noted_run
theorem NtB.s {x : Nt} (h : NtB x) : NtS x := ⟨Nat.le_trans h.st (by decide), Nat.le_trans h.pr (by decide), Nat.le_trans h.jb (by decide), Nat.le_trans h.sp (by decide), Nat.le_trans h.of_ (by decide)⟩
end Go.Proofs.YtlhbfcfjepbhpaaGreatDoor
-- NEWM
namespace Go.Proofs.YtlhbfcfjepbhpaaGreatDoor
open Go Go.RowKit
set_option maxRecDepth 1000000
def rgtF (zs : List Int) (many : Nat) : Nat → Int → List Nt × Int
 | 0, a => ([], a)
 | k + 1, a => if chkN (notesF zs a many) = 0 then (notesF zs a many, (gensF zs a many).2.a) else rgtF zs many k (gensF zs a many).2.a
theorem rightnotes_f (many : Nat) (hmany : many ≤ 20) (v : Value) (zs : List Int) (a : Int) (hs : StrOk zs) (h0 : 0 ≤ a) (h1 : a ≤ 700000000) : ACalls Tryz.prog 17 [.p 0 0 0, .c (I (many : Nat))] [strm v zs a] fun u H => ∃ (r : List Nt) (c : Nat) (a' : Int), rgtF zs many 8 a = (r, a') ∧ a ≤ a' ∧ a' ≤ a + 3200 ∧ r.length ≤ many ∧ chkN r = 0 ∧ (∀ x ∈ r, NtB x) ∧ r.length ≤ c ∧ u = .o 1 0 r.length c ∧ H = [strm v zs a', .arr 39 10 c (noRs r)] := by
 refine zg (N := 16) Tryz.func17 rfl rfl (by simp) fun E hE => ?_
 refine WA ?_
 refine WA ?_
 refine zK (fun m F H => ∃ (k : Nat) (a' : Int), m + k = 8 ∧ a ≤ a' ∧ a' ≤ a + 400 * k ∧ rgtF zs many m a' = rgtF zs many 8 a ∧ F = [(0, .p 0 0 0), (1, .c (I (many : Nat))), (6, .c (I k))] ∧ H = [strm v zs a']) ?_ ?_
 ·refine zp [some 0] (fun _ => [(0, .p 0 0 0), (1, .c (I (many : Nat))), (6, .c (I (0 : Nat)))]) (fun _ => [strm v zs a]) (by decide) (ZNL hE) ZCF ZCH (fun _ => ?_)
  exact ⟨8, 0, a, by omega, by omega, by omega, rfl, rfl, rfl⟩
 rintro m F H ⟨k, a', hk, ha1, ha2, hrg, rfl, rfl⟩
 refine WA ?_
 refine zw rfl (fun hlt => ?_) (fun hge => ?_)
 ·obtain ⟨m1, rfl⟩ : ∃ m1, m = m1 + 1 := ⟨m - 1, by omega⟩
  rw [rgtF] at hrg
  refine WR ?_
  refine zf rfl (zX [0] (fun _ => [strm v zs a']) false (fun _ => notelist_f many (by omega) v zs a' hs (by omega) (by omega)) rfl .fn rfl (by decide) (by kernel_rfl) rfl (fun _g => .cons (.p rfl) (.cons (.c rfl) .nil)) (by decide) ZCH (by simp)) ?_
  rintro F1 H1 ⟨_, _, _, _, ⟨r, c, a2, hf, ha2, h3, h4, hl, hb, hc, rfl, rfl⟩, hF, hH⟩
  (refine NSU hF hH ?_; clear hF hH; rintro rfl rfl)
  refine WE ?_
  rw [← hf, ← ha2] at hrg
  refine WR ?_
  refine zf rfl (zc true (fun g => zU2 (g (.o 1 0 r.length c)) r (by omega) (fun x hx => (hb x hx).s)) rfl .fn rfl (by decide) (by kernel_rfl) rfl (fun _ => .cons (.frz rfl rfl (by rw [List.drop_zero, List.take_of_length_le (by simp)]) (by simp) rfl) .nil) (fun _ _ _ _ ⟨hu, hH⟩ => by rw [hu, hH]; exact ⟨.c (.inl trivial), by simp⟩)) ?_
  rintro _ _ ⟨_, _, _, ⟨rfl, rfl⟩, hF, hH⟩
  (refine NST hF hH ?_; clear hF hH; rintro rfl rfl)
  refine WE ?_
  generalize hck : chkN r = e at hrg ⊢
  refine zw rfl (fun hp => ?_) (fun hp => ?_)
  ·subst hp
   rw [if_pos rfl] at hrg
   refine WA ?_
   exact aret_o [some 0, some 1] (fun _ => [strm v zs a2, .arr 39 10 c (noRs r)]) rfl rfl rfl rfl rfl (by decide) (ZNK rfl) ZCH (fun _ => ⟨r, c, a2, hrg.symm, by omega, by omega, by omega, hck, hb, by omega, rfl, rfl⟩)
  ·rw [if_neg hp] at hrg
   refine ZZ ?_
   refine WA ?_
   refine zp [some 0] (fun _ => [(0, .p 0 0 0), (1, .c (I (many : Nat))), (6, .c (I (k + 1 : Nat)))]) (fun _ => [strm v zs a2]) (by decide) (ZNL hE) ZCF ZCH (fun _ => ?_)
   exact ⟨m1, by omega, k + 1, a2, by omega, by omega, by omega, hrg, rfl, rfl⟩
 obtain rfl : m = 0 := by omega
 refine ZZ ?_
 refine WA ?_
 exact zu (us := [.c (.r (.slice none 0 0) [])]) [some 0, none] (fun _ => .o 1 0 0 0) (fun _ => [strm v zs a', .arr 39 10 0 []]) (.tmp rfl .nil) (by decide) (ZNK rfl) (fun _ => .nil rfl) ZCH (fun _ => ⟨[], 0, a', hrg.symm, by omega, by omega, Nat.zero_le _, by decide, by simp, Nat.le_refl _, rfl, rfl⟩)
end Go.Proofs.YtlhbfcfjepbhpaaGreatDoor
-- NEWM
namespace Go.Proofs.YtlhbfcfjepbhpaaGreatDoor
open Go Go.RowKit
set_option maxRecDepth 1000000
abbrev chL : List UInt8 := [32, 10, 48, 45, 57, 97, 112, 106]
theorem rd_cvx {P : Program} {N : Nat} {E : Env} {F : Fm} {H : List OB} {o : Oper} {x : Operand} {src dst : TypeId} {k kd : IntKind} {n r : Int} (hw : k.wrap n = r) (ho : o.op = .convert src dst x) (hs : (P.underlying src).isSome = true) (hd : P.underlying dst = some (.int k)) (hx : ev F x = some (.c (.s (.int kd n)))) : Rd P N E o F H (.c (.s (.int k r))) := hw ▸ rd_cvi ho hs hd hx
theorem rd_cvr {P : Program} {N : Nat} {E : Env} {F : Fm} {H : List OB} {o : Oper} {x : Operand} {src dst : TypeId} {kd : IntKind} {n : Int} {l : List UInt8} (hw : Utf8.encode n = bst l) (ho : o.op = .convert src dst x) (hs : (P.underlying src).isSome = true) (hd : P.underlying dst = some .string) (hx : ev F x = some (.c (.s (.int kd n)))) : Rd P N E o F H (.c (T l)) := fun S ρ a w hR => by
 have h1 := (hR.ev hx).1
 simp only [AV.den, CV.den] at h1
 refine ⟨?_, .c (.s _)⟩
 have := run_convert_int_string (P := P) w src dst kd n hs hd
 rw [hw] at this
 simp [execOp, ho, h1, this, AV.den, CV.den]
theorem chL_ok : ∀ cb : UInt8, cb ∈ chL → IntKind.i32.wrap (cb.toNat : Int) = (cb.toNat : Int) ∧ Utf8.encode (cb.toNat : Int) = bst [cb] := fun cb h => by
 simp only [List.mem_cons, List.not_mem_nil, or_false] at h
 rcases h with rfl | rfl | rfl | rfl | rfl | rfl | rfl | rfl <;> exact ⟨by decide, by decide⟩
set_option maxHeartbeats 1000000 in
theorem changed_v (t : List UInt8) (ht : t.length ≤ 100000) (v : Value) (zs : List Int) (a : Int) (hs : StrOk zs) (h0 : 0 ≤ a) (h1 : a ≤ 700000000) : ACalls Tryz.prog 51 [.p 0 0 0, .c (T t), .c (T chL)] [strm v zs a] fun u H => ∃ (t2 : List UInt8) (a2 : Int), u = .c (T t2) ∧ t2.length ≤ t.length + 8 ∧ a ≤ a2 ∧ a2 ≤ a + 3 ∧ H = [strm v zs a2] := by
 obtain ⟨q, hq⟩ : ∃ q, decide (t = []) = q := ⟨_, rfl⟩
 have hq2 : decide (chL = []) = false := by decide
 have h8 : ((chL.length : Nat) : Int) = 8 := rfl
 refine zg (N := 63) Tryz.func51 rfl rfl (by simp) fun E hE => ?_
 refine WA ?_
 cases q with
 | true =>
  have h2 := of_decide_eq_true hq
  subst h2
  refine ZR ?_
  refine WX1 ?_
  refine ZA (zO (a := _) (b := []) hq rfl Tryz.underlying9 rfl rfl) ?_
  refine WE ?_
  refine zb rfl ?_
  refine ZZ ?_
  refine WA ?_
  exact zh [some 0] [strm v zs a] rfl rfl rfl (by decide) (ZNK rfl) ZCH ⟨chL, a, rfl, by simp, by omega, by omega, rfl⟩
 | false =>
  have hne := of_decide_eq_false hq
  have hpos : 0 < t.length := List.length_pos_iff.2 hne
  refine ZR ?_
  refine WX1 ?_
  refine ZA (zO (a := t) (b := []) hq rfl Tryz.underlying9 rfl rfl) ?_
  iterate 2 refine WX1 ?_
  first | refine ZP (zO (a := chL) (b := []) hq2 rfl Tryz.underlying9 rfl rfl) ?_ | refine ZS ?_
  refine WE ?_
  refine za rfl ?_
  refine ZZ ?_
  refine WR ?_
  refine zf rfl (zi false (fun _ => zY3 _ _ _ _ hs (by omega) (by omega) (by simp only [in64]; omega)) rfl .fn rfl (by decide) (by kernel_rfl) rfl rfl (fun _g => .cons (.p rfl) (.cons (.c rfl) .nil)) (fun _g => .cons (.c rfl) (.cons (.c rfl) .nil)) (by simp)) ?_
  rintro F1 H1 ⟨_, _, _, _, ⟨rq, rfl, hq, hr1, hr2, hrv⟩, hF, hH⟩
  injection hq with hq1 hq2; subst hq1; subst hq2
  (refine NST hF hH ?_; clear hF hH; rintro rfl rfl)
  obtain ⟨i, rfl⟩ : ∃ i : Nat, rq = i := ⟨rq.toNat, by omega⟩
  have hi : i < t.length := by have := hr2 (by omega); omega
  clear hr1 hr2 hrv
  refine WE ?_
  refine WR ?_
  refine zf rfl (zi false (fun _ => zY3 _ _ _ _ hs (by omega) (by omega) (by simp only [in64]; omega)) rfl .fn rfl (by decide) (by kernel_rfl) rfl rfl (fun _g => .cons (.p rfl) (.cons (.c rfl) .nil)) (fun _g => .cons (.c rfl) (.cons (.c rfl) .nil)) (by simp)) ?_
  rintro F1 H1 ⟨_, _, _, _, ⟨rq, rfl, hq, hr1, hr2, hrv⟩, hF, hH⟩
  injection hq with hq1 hq2; subst hq1; subst hq2
  (refine NST hF hH ?_; clear hF hH; rintro rfl rfl)
  obtain ⟨j, rfl⟩ : ∃ j : Nat, rq = j := ⟨rq.toNat, by omega⟩
  have hj : j < 8 := by have := hr2 (by rw [h8]; omega); rw [h8] at this; omega
  clear hr1 hr2 hrv
  obtain ⟨cb, hcb⟩ : ∃ cb, chL[j]? = some cb := ⟨_, List.getElem?_eq_getElem hj⟩
  have hcw : IntKind.i32.wrap (cb.toNat : Int) = (cb.toNat : Int) ∧ Utf8.encode (cb.toNat : Int) = bst [cb] := chL_ok cb (List.mem_of_getElem? hcb)
  refine ZA (zK1 (i := j) rfl Tryz.underlying9 rfl rfl rfl hcb) ?_
  refine WE ?_
  refine WR ?_
  refine zf rfl (zi false (fun _ => zY3 _ _ _ _ hs (by omega) (by omega) (by simp only [in64]; omega)) rfl .fn rfl (by decide) (by kernel_rfl) rfl rfl (fun _g => .cons (.p rfl) (.cons (.c rfl) .nil)) (fun _g => .cons (.c rfl) (.cons (.c rfl) .nil)) (by simp)) ?_
  rintro F1 H1 ⟨_, _, _, _, ⟨rq, rfl, hq, hr1, hr2, hrv⟩, hF, hH⟩
  injection hq with hq1 hq2; subst hq1; subst hq2
  (refine NST hF hH ?_; clear hF hH; rintro rfl rfl)
  refine WE ?_
  refine WA ?_
  refine zw rfl (fun hr0 => ?_) (fun hr0 => ?_)
  ·refine ZZ ?_
   refine zk [(0, none), (1, none), (2, none), (3, none), (4, none), (5, none), (6, none), (7, none), (8, none), (9, none), (10, none), (11, none), (12, none)] zS (by kernel_rfl) ?_
   iterate 2 refine WX2 ?_
   refine ZT rfl (zr1 (i := 0) (j := i) rfl Tryz.underlying9 rfl (.inl ⟨rfl, rfl⟩) (.inr ⟨_, _, _, rfl, rfl, rfl⟩) (by first | (simp; done) | omega) (by first | (simp; done) | omega)) ?_
   refine WX2 ?_
   refine ZT rfl (rd_cvx (r := (cb.toNat : Int)) hcw.1 rfl (by kernel_rfl) Tryz.underlying21 rfl) ?_
   refine ZT rfl (rd_cvr (l := [cb]) hcw.2 rfl (by kernel_rfl) Tryz.underlying9 rfl) ?_
   refine ZT rfl (zG2 (a := _) (b := [cb]) rfl Tryz.underlying9 rfl rfl (by simp; omega)) ?_
   iterate 3 refine WX2 ?_
   refine ZT rfl (zr1 (i := i + 1) (j := t.length) rfl Tryz.underlying9 rfl (.inr ⟨_, _, _, rfl, rfl, rfl⟩) (.inl ⟨rfl, rfl⟩) (by first | (simp; done) | omega) (by first | (simp; done) | omega)) ?_
   refine ZT rfl (zG2 (a := _) (b := _) rfl Tryz.underlying9 rfl rfl (by simp; omega)) ?_
   refine WQ ?_
   exact zh [some 0] [strm v zs _] rfl rfl rfl (by decide) (ZNK rfl) ZCH ⟨_, _, rfl, by simp; omega, by omega, by omega, rfl⟩
  ·refine ZZ ?_
   refine WA ?_
   refine zw rfl (fun hr1 => ?_) (fun hr1 => ?_)
   ·refine ZZ ?_
    refine zk [(0, none), (1, none), (2, none), (3, none), (4, none), (5, none), (6, none), (7, none), (8, none), (9, none), (10, none), (11, none)] zS (by kernel_rfl) ?_
    iterate 2 refine WX2 ?_
    refine ZT rfl (zr1 (i := 0) (j := i) rfl Tryz.underlying9 rfl (.inl ⟨rfl, rfl⟩) (.inr ⟨_, _, _, rfl, rfl, rfl⟩) (by first | (simp; done) | omega) (by first | (simp; done) | omega)) ?_
    refine WX2 ?_
    refine ZT rfl (rd_cvx (r := (cb.toNat : Int)) hcw.1 rfl (by kernel_rfl) Tryz.underlying21 rfl) ?_
    refine ZT rfl (rd_cvr (l := [cb]) hcw.2 rfl (by kernel_rfl) Tryz.underlying9 rfl) ?_
    refine ZT rfl (zG2 (a := _) (b := [cb]) rfl Tryz.underlying9 rfl rfl (by simp; omega)) ?_
    iterate 2 refine WX2 ?_
    refine ZT rfl (zr1 (i := i) (j := t.length) rfl Tryz.underlying9 rfl (.inr ⟨_, _, _, rfl, rfl, rfl⟩) (.inl ⟨rfl, rfl⟩) (by first | (simp; done) | omega) (by first | (simp; done) | omega)) ?_
    refine ZT rfl (zG2 (a := _) (b := _) rfl Tryz.underlying9 rfl rfl (by simp; omega)) ?_
    refine WQ ?_
    exact zh [some 0] [strm v zs _] rfl rfl rfl (by decide) (ZNK rfl) ZCH ⟨_, _, rfl, by simp; omega, by omega, by omega, rfl⟩
   ·refine ZZ ?_
    refine ZZ ?_
    refine zk [(0, none), (1, none), (2, none), (3, none), (4, none), (5, none), (6, none), (7, none), (8, none)] zS (by kernel_rfl) ?_
    iterate 2 refine WX2 ?_
    refine ZT rfl (zr1 (i := 0) (j := i) rfl Tryz.underlying9 rfl (.inl ⟨rfl, rfl⟩) (.inr ⟨_, _, _, rfl, rfl, rfl⟩) (by first | (simp; done) | omega) (by first | (simp; done) | omega)) ?_
    iterate 3 refine WX2 ?_
    refine ZT rfl (zr1 (i := i + 1) (j := t.length) rfl Tryz.underlying9 rfl (.inr ⟨_, _, _, rfl, rfl, rfl⟩) (.inl ⟨rfl, rfl⟩) (by first | (simp; done) | omega) (by first | (simp; done) | omega)) ?_
    refine ZT rfl (zG2 (a := _) (b := _) rfl Tryz.underlying9 rfl rfl (by simp; omega)) ?_
    refine WQ ?_
    exact zh [some 0] [strm v zs _] rfl rfl rfl (by decide) (ZNK rfl) ZCH ⟨_, _, rfl, by simp; omega, by omega, by omega, rfl⟩
set_option maxHeartbeats 1000000 in
theorem notetext_s (v : Value) (zs : List Int) (a : Int) (hs : StrOk zs) (h0 : 0 ≤ a) (h1 : a ≤ 600000000) : ACallsW TabX false Tryz.prog 9 [.p 0 0 0] [strm v zs a] fun u H => ∃ (t : List UInt8) (a2 : Int), u = .c (T t) ∧ t.length ≤ 3000 ∧ a ≤ a2 ∧ a2 ≤ a + 10000 ∧ H = [strm v zs a2] := by
 refine zK2 (X := TabX) false (N := 19) Tryz.func9 rfl rfl (by simp) fun E hE hP hX => ?_
 refine WA ?_
 refine WR ?_
 refine zf rfl (zi false (fun _ => range_f 0 5 _ _ _ hs (by omega) (by omega) (by omega) (by omega) (by omega) (by omega)) rfl .fn rfl (by decide) (by kernel_rfl) rfl rfl (fun _g => .cons (.p rfl) (.cons (.c rfl) (.cons (.c rfl) .nil))) (fun _g => .cons (.c rfl) (.cons (.c rfl) .nil)) (by simp)) ?_
 rintro F1 H1 ⟨_, _, _, _, ⟨r1, ar1, rfl, hq, hx1r1, hx2r1, hx3r1, hx4r1, _, hvr1⟩, hF, hH⟩
 injection hq with hq1 hq2; subst hq1; subst hq2
 (refine NST hF hH ?_; clear hF hH; rintro rfl rfl)
 obtain ⟨nr1, hnr1⟩ : ∃ m : Nat, r1 = (m : Int) := ⟨(r1).toNat, by omega⟩
 subst hnr1
 have hx5r1 := hx4r1 (by omega)
 refine zf rfl (zX [0] (fun _ => [strm v zs ar1]) false (fun _ => rightnotes_f nr1 (by omega) v zs ar1 hs (by omega) (by omega)) rfl .fn rfl (by decide) (by kernel_rfl) rfl (fun _g => .cons (.p rfl) (.cons (.c rfl) .nil)) (by decide) ZCH (by simp) (.inr hP)) ?_
 rintro F1 H1 ⟨_, _, _, _, ⟨la, cla, ala, hfla, ha1la, ha2la, hlla, hkla, hbla, hcla, rfl, rfl⟩, hF, hH⟩
 (refine NSU hF hH ?_; clear hF hH; rintro rfl rfl)
 refine zf rfl (zQ TabX (hX _ _) true (fun g => notelines_v (g (.o 1 0 la.length cla)) la (chkN_pw.1 hkla).2.1 (by omega)) rfl .fn rfl (by decide) (by kernel_rfl) rfl (fun _ => .cons (.frz rfl rfl (by rw [List.drop_zero, List.take_of_length_le (by simp)]) (by simp) rfl) .nil) (fun _ _ _ _ ⟨hu, hH⟩ => by rw [hu, hH]; exact ⟨.c (.inl trivial), by simp⟩)) ?_
 rintro _ _ ⟨_, _, _, ⟨rfl, rfl⟩, hF, hH⟩
 (refine NST hF hH ?_; clear hF hH; rintro rfl rfl)
 refine WE ?_
 have htl := txF_len (chkN_pw.1 hkla).2.1
 obtain ⟨t0, ht0⟩ : ∃ t0, txF la = t0 := ⟨_, rfl⟩
 rw [ht0] at htl ⊢
 refine aw_wk (zp (K := fun F H => F = [(0, .p 0 0 0), (3, .c (T t0))] ∧ H = [strm v zs ala]) [some 0] (fun _ => [(0, .p 0 0 0), (3, .c (T t0))]) (fun _ => [strm v zs ala]) (by decide) (ZNL hE) ZCF ZCH (fun _ => ⟨rfl, rfl⟩)) ?_
 rintro F H ⟨rfl, rfl⟩
 refine ZZ ?_
 refine WR ?_
 refine zf rfl (zi true (fun _ => zH1 [0, 0, 1, 2] _ _ _ _ hs (by omega) (by omega) (by simp) (by simp)) rfl .fn rfl (by decide) (by kernel_rfl) rfl rfl (fun _g => .cons (.p rfl) (.cons (.frz rfl rfl rfl rfl rfl) .nil)) (fun _g => .cons (.c rfl) (.cons (.c rfl) .nil)) (fun _ _ _ _ ⟨_, hu, hH, _⟩ => by rw [hu, hH]; exact ⟨.c (.inl trivial), zl (.inr ⟨0, _, rfl, by simp⟩)⟩)) ?_
 rintro F1 H1 ⟨_, _, _, _, ⟨rp, rfl, hq, hrmrp, hvrp⟩, hF, hH⟩
 injection hq with hq1 hq2; subst hq1; subst hq2
 (refine NST hF hH ?_; clear hF hH; rintro rfl rfl)
 refine WE ?_
 have hrp : 0 ≤ rp ∧ rp ≤ 2 := by
  have h : ∀ r ∈ ([0, 0, 1, 2] : List Int), 0 ≤ r ∧ r ≤ 2 := by simp
  exact h _ hrmrp
 obtain ⟨np, rfl⟩ : ∃ n : Nat, rp = n := ⟨rp.toNat, by omega⟩
 refine zK (fun m F H => ∃ (k : Nat) (t : List UInt8) (a2 : Int), m + k = np ∧ t.length ≤ t0.length + 8 * k ∧ ala + 1 ≤ a2 ∧ a2 ≤ ala + 1 + 3 * k ∧ F = [(0, .p 0 0 0), (3, .c (T t)), (11, .c (I (np : Nat))), (12, .c (I k))] ∧ H = [strm v zs a2]) ?_ ?_
 ·refine zp [some 0] (fun _ => [(0, .p 0 0 0), (3, .c (T t0)), (11, .c (I (np : Nat))), (12, .c (I (0 : Nat)))]) (fun _ => [strm v zs (ala + 1)]) (by decide) (ZNL hE) ZCF ZCH (fun _ => ⟨np, 0, t0, ala + 1, rfl, by omega, by omega, by omega, rfl, rfl⟩)
 rintro m F H ⟨k, t, a2, hk, htk, ha2, ha22, rfl, rfl⟩
 refine WA ?_
 refine zw rfl (fun hlt => ?_) (fun hge => ?_)
 ·refine WR ?_
  refine zf rfl (zX [0] (fun _ => [strm v zs a2]) false (fun _ => changed_v t (by omega) v zs a2 hs (by omega) (by omega)) rfl .fn rfl (by decide) (by kernel_rfl) rfl (fun _g => .cons (.p rfl) (.cons (.c rfl) (.cons (.c rfl) .nil))) (by decide) ZCH (by simp) (.inr hP)) ?_
  rintro F1 H1 ⟨_, _, _, _, ⟨t3, a3, rfl, ht3, ha3, ha4, rfl⟩, hF, hH⟩
  (refine NSU hF hH ?_; clear hF hH; rintro rfl rfl)
  refine WE ?_
  refine WA ?_
  exact zp [some 0] (fun _ => [(0, .p 0 0 0), (3, .c (T t3)), (11, .c (I (np : Nat))), (12, .c (I (k + 1 : Nat)))]) (fun _ => [strm v zs a3]) (by decide) (ZNL hE) ZCF ZCH (fun _ => ⟨m - 1, by omega, k + 1, t3, a3, by omega, by omega, by omega, by omega, rfl, rfl⟩)
 ·refine ZZ ?_
  refine WA ?_
  exact zh [some 0] [strm v zs a2] rfl rfl rfl (by decide) (ZNK rfl) ZCH ⟨t, a2, rfl, by omega, by omega, by omega, rfl⟩
end Go.Proofs.YtlhbfcfjepbhpaaGreatDoor
-- NEWM
namespace Go.Proofs.YtlhbfcfjepbhpaaGreatDoor
open Go Go.RowKit
set_option maxRecDepth 1000000
theorem rdF_len {t : List UInt8} (hl : t.length ≤ 200000) : (rdF t).1.length ≤ 1000000 := by
 unfold rdF
 rw [if_neg (by omega)]
 obtain ⟨ls, en, hls⟩ : ∃ ls en, lnsF t = (ls, en) := ⟨_, _, rfl⟩
 rw [hls]
 simp only
 unfold rdE
 split
 ·simp
 ·rename_i r h
  have h2 := (rdL_sz (lns_sz hls hl) h).2
  have h3 : ls.length ≤ 200001 := by
   unfold lnsF at hls
   split at hls
   ·injection hls with h1 h2; subst h1; simp
   split at hls
   ·injection hls with h1 h2; subst h1
    have h3 := List.count_le_length (a := 10) (l := t.dropLast)
    rw [zN2]; simp at h3; omega
   ·injection hls with h1 h2; subst h1
    have h3 := List.count_le_length (a := 10) (l := t)
    rw [zN2]; omega
  split
  ·simp
  ·simp only; omega
set_option maxHeartbeats 1500000 in
theorem law_texts (v : Value) (zs : List Int) (hs : StrOk zs) : ACallsW TabX false Tryz.prog 3 [.c (.r v (zs.map fun z => [I z]))] [] fun u H => u = .c (B true) := by
 refine zD1 zk2 false (N := 74) Tryz.func3 rfl rfl (by simp) fun E hE hP hX => ?_
 refine WA ?_
 refine WA ?_
 refine WR ?_
 refine zf rfl (zi false (fun _ => range_f 0 8 _ _ _ hs (by omega) (by omega) (by omega) (by omega) (by omega) (by omega)) rfl .fn rfl (by decide) (by kernel_rfl) rfl rfl (fun _g => .cons (.p rfl) (.cons (.c rfl) (.cons (.c rfl) .nil))) (fun _g => .cons (.c rfl) (.cons (.c rfl) .nil)) (by simp)) ?_
 rintro F1 H1 ⟨_, _, _, _, ⟨r1, ar1, rfl, hq, hx1r1, hx2r1, hx3r1, hx4r1, _, hvr1⟩, hF, hH⟩
 injection hq with hq1 hq2; subst hq1; subst hq2
 (refine NST hF hH ?_; clear hF hH; rintro rfl rfl)
 obtain ⟨nr1, hnr1⟩ : ∃ m : Nat, r1 = (m : Int) := ⟨(r1).toNat, by omega⟩
 subst hnr1
 have hx5r1 := hx4r1 (by omega)
 refine zf rfl (zX [0] (fun _ => [strm v zs ar1]) false (fun _ => notelist_f nr1 (by omega) v zs ar1 hs (by omega) (by omega)) rfl .fn rfl (by decide) (by kernel_rfl) rfl (fun _g => .cons (.p rfl) (.cons (.c rfl) .nil)) (by decide) ZCH (by simp) (.inr hP)) ?_
 rintro F1 H1 ⟨_, _, _, _, ⟨la, cla, ala, hfla, ha2la, h3la, h4la, hlla, hbla, hcla, rfl, rfl⟩, hF, hH⟩
 (refine NSU hF hH ?_; clear hF hH; rintro rfl rfl)
 refine WO ?_
 refine zf rfl (zJ3 TabX (hX _ _) [0] (fun _ => [strm v zs ala]) false (fun _ => notetext_s v zs ala hs (by omega) (by omega)) rfl .fn rfl (by decide) (by kernel_rfl) rfl (fun _g => .cons (.p rfl) .nil) (by decide) ZCH (by simp) (.inr hP)) ?_
 rintro F1 H1 ⟨_, _, _, _, ⟨t, at2, rfl, htl, hat1, hat2, rfl⟩, hF, hH⟩
 (refine NSU hF hH ?_; clear hF hH; rintro rfl rfl)
 refine WE ?_
 refine aw_wk (zp (K := fun F H => ∃ va, F = [(4, .c (.r va (noRs la))), (5, .c (T t))] ∧ H = []) [] (fun g => [(4, .c (.r (g (.o 1 0 la.length cla)) (noRs la))), (5, .c (T t))]) (fun _ => []) (by decide) (ZNL hE) (fun _ => .cons rfl (.frz rfl rfl (by rw [List.drop_zero, List.take_of_length_le (by simp)]) (by simp) rfl) (.cons rfl (.c rfl) .nil)) ZCH (fun _ => ⟨_, rfl, rfl⟩)) ?_
 rintro F H ⟨va, rfl, rfl⟩
 have hAs : ∀ x ∈ la, NtS x := fun x hx => (hbla x hx).s
 have hll : la.length ≤ 1000000 := by omega
 obtain ⟨e, hck⟩ : ∃ e, chkN la = e := ⟨_, rfl⟩
 obtain ⟨X, hX2⟩ : ∃ X, (if chkN la = 0 then txF la else []) = X := ⟨_, rfl⟩
 have htx := text_v va la hll hAs (by omega)
 rw [hX2] at htx
 obtain ⟨r, i, f, hrf⟩ : ∃ r i f, rdF t = (r, i, f) := ⟨_, _, _, rfl⟩
 have hrl : r.length ≤ 1000000 := by have := rdF_len (t := t) (by omega); rw [hrf] at this; exact this
 clear hs
 refine ZZ ?_
 refine WR ?_
 refine zf rfl (zQ TabX (hX _ _) false (fun _ => htx) rfl .fn rfl (by decide) (by kernel_rfl) rfl (fun _ => C0 rfl) (by simp)) ?_
 rintro _ _ ⟨_, _, _, ⟨rfl, rfl⟩, hF, hH⟩
 rw [hck] at hF
 (refine NST hF hH ?_; clear hF hH; rintro rfl rfl)
 refine WE ?_
 refine WR ?_
 refine zf rfl (zc false (fun _ => zU2 va la hll hAs) rfl .fn rfl (by decide) (by kernel_rfl) rfl (fun _ => C0 rfl) (by simp)) ?_
 rintro _ _ ⟨_, _, _, ⟨rfl, rfl⟩, hF, hH⟩
 rw [hck] at hF
 (refine NST hF hH ?_; clear hF hH; rintro rfl rfl)
 refine WE ?_
 refine WA ?_
 refine zA1 (fun F H => F = [(4, .c (.r va (noRs la))), (5, .c (T t)), (6, .c (T X)), (7, .c (I e)), (8, .c (I e)), (9, .c (T X))] ∧ H = []) ?_ ?_ zq2
 ·refine zw rfl (fun h0 => ?_) (fun h0 => ?_)
  ·have hla := (chkN_pw.1 (hck.trans h0)).2.1
   have hnl := notelines_v va la hla (by omega)
   rw [← hX2, if_pos (hck.trans h0)]
   refine WR ?_
   refine zf rfl (zQ TabX (hX _ _) false (fun _ => hnl) rfl .fn rfl (by decide) (by kernel_rfl) rfl (fun _ => C0 rfl) (by simp)) ?_
   rintro _ _ ⟨_, _, _, ⟨rfl, rfl⟩, hF, hH⟩
   (refine NST hF hH ?_; clear hF hH; rintro rfl rfl)
   refine WE ?_
   exact zp [] (fun _ => [(4, .c (.r va (noRs la))), (5, .c (T t)), (6, .c (T (txF la))), (7, .c (I e)), (8, .c (I e)), (9, .c (T (txF la)))]) (fun _ => []) (by decide) (ZNL hE) ZCF (fun _ => .nil) (fun _ => ⟨rfl, rfl⟩)
  ·have hX3 : X = [] := by rw [← hX2, if_neg fun h => h0 (hck.symm.trans h)]
   subst hX3
   refine ZZ ?_
   exact zp [] (fun _ => [(4, .c (.r va (noRs la))), (5, .c (T t)), (6, .c (T [])), (7, .c (I e)), (8, .c (I e)), (9, .c (T []))]) (fun _ => []) (by decide) (ZNL hE) ZCF (fun _ => .nil) (fun _ => ⟨rfl, rfl⟩)
 rintro F H ⟨rfl, rfl⟩
 have z1 : e = e := rfl
 have z2 : i = i := rfl
 have z3 : f = f := rfl
 have hXX : decide (X = X) = true := decide_eq_true rfl
 refine WR ?_
 refine zf rfl (zc false (fun _ => read_v t (by omega)) rfl .fn rfl (by decide) (by kernel_rfl) rfl (fun _ => C0 rfl) (by simp)) ?_
 rintro _ _ ⟨_, _, _, ⟨⟨vb, rfl⟩, rfl⟩, hF, hH⟩
 rw [hrf] at hF
 (refine NST hF hH ?_; clear hF hH; rintro rfl rfl)
 refine WE ?_
 refine WR ?_
 refine zf rfl (zQ TabX (hX _ _) false (fun _ => notesread_v t (by omega)) rfl .fn rfl (by decide) (by kernel_rfl) rfl (fun _ => C0 rfl) (by simp)) ?_
 rintro _ _ ⟨_, _, _, ⟨⟨vc, rfl⟩, rfl⟩, hF, hH⟩
 rw [hrf] at hF
 (refine NST hF hH ?_; clear hF hH; rintro rfl rfl)
 refine WE ?_
 refine ZR ?_
 iterate 6 refine WX1 ?_
 first | refine ZP (zO (a := X) (b := X) hXX rfl Tryz.underlying9 rfl rfl) ?_ | refine ZS ?_
 refine WO ?_
 first | refine ZS ?_ | (refine G1 rfl ?_; refine zf rfl (zc false (fun _ => equalN_v vb vc r r hrl hrl) rfl .fn rfl (by decide) (by kernel_rfl) rfl (fun _ => C0 rfl) (by simp)) ?_; rintro _ _ ⟨_, _, _, ⟨rfl, rfl⟩, hF, hH⟩; rw [decide_eq_true rfl] at hF; (refine NST hF hH ?_; clear hF hH; rintro rfl rfl)) | skip
 refine WO ?_
 first | refine ZS ?_ | (refine G1 rfl ?_; refine zf rfl (zc false (fun _ => noted_a) rfl .fn rfl (by decide) (by kernel_rfl) rfl (fun _ => C0 rfl) (by simp)) ?_; rintro _ _ ⟨_, _, _, ⟨rfl, rfl⟩, hF, hH⟩; (refine NST hF hH ?_; clear hF hH; rintro rfl rfl)) | skip
 refine WE ?_
 exact zh [] _ rfl rfl rfl (by decide) (ZNK rfl) (fun _ => .nil) rfl
end Go.Proofs.YtlhbfcfjepbhpaaGreatDoor
namespace Go.Proofs.YtlhbfcfjepbhpaaGreatDoor
open Go Go.RowKit
set_option maxRecDepth 100000
theorem tab_of {W : World} {r : List (String × DataW Unit)} (h : laidMet Tryz.prog (("internal/strconv.uint64pow10", Lib.tabData .u64 Lib.pow10Tab) :: r) W) : TabX.X W [] [] :=
 tabX_of <| Lib.tabIs_of_head (g := 1) (t := 368) (e := 253) (n := 20) (by kernel_rfl) (by kernel_rfl) (by kernel_rfl) (by kernel_rfl) (by kernel_rfl) (by kernel_rfl) h
end Go.Proofs.YtlhbfcfjepbhpaaGreatDoor
