/- Results that are slices of the call's own, given back by content; guarded operations that are left out. -/
import Derived.Test.YtniolldgidgffaaGreatDoorQal
set_option linter.unusedSimpArgs false
set_option linter.unusedVariables false
set_option linter.defProp false
/- Results that are slices of the call's own, given back by content; guarded operations that are left out. -/
namespace Go.Proofs.YtniolldgidgffaaGreatDoor
open Go Go.RowKit
theorem nm : (∀ {α : Type} (n : Nat) (a : α) (l : List α), (a :: l).take (n + 1) = a :: l.take n) ∧ (∀ {α : Type} (l : List α), l.take 0 = []) ∧ (∀ {α : Type} (n : Nat), ([] : List α).take n = []) ∧ (∀ {α : Type} (l : List α), l.drop 0 = l) ∧ (∀ {α : Type} (n : Nat) (a : α) (l : List α), (a :: l).drop (n + 1) = l.drop n) ∧ (∀ {α : Type} (n : Nat), ([] : List α).drop n = []) ∧
    (∀ {α β : Type} (f : α → β) (a : α) (l : List α), (a :: l).map f = f a :: l.map f) ∧ (∀ {α β : Type} (f : α → β), [].map f = []) ∧ (∀ {α : Type} (l : List α), [] ++ l = l) ∧ (∀ {α : Type} (a : α) (l l' : List α), (a :: l) ++ l' = a :: (l ++ l')) ∧ (∀ {α : Type} (l : List α), l ++ [] = l) ∧
    (∀ {α : Type} (a : α) (l : List α), (a :: l).length = l.length + 1) ∧ (∀ {α : Type}, ([] : List α).length = 0) ∧ (∀ {α : Type} (l l' : List α), (l ++ l').length = l.length + l'.length) ∧ (∀ {α β : Type} (f : α → β) (l : List α), (l.map f).length = l.length) ∧ (∀ {α : Type} (l : List α) (n : Nat) (a : α), (l.set n a).length = l.length) ∧
    (∀ {α : Type} (l : List α) (a b : α), (a :: l).set 0 b = b :: l) ∧ (∀ {α : Type} (l : List α) (n : Nat) (a b : α), (a :: l).set (n + 1) b = a :: l.set n b) := by
 refine ⟨?_, ?_, ?_, ?_, ?_, ?_, ?_, ?_, ?_, ?_, ?_, ?_, ?_, ?_, ?_, ?_, ?_, ?_⟩ <;> intros <;> simp
section
variable {P : Program} {F : Fm} {H : List OB}
theorem aret_f1 {fn : Func} {nl q b k n c sz cap : Nat} {e : TypeId} {rows rs : List (List CV)} {Qr : AV → List OB → Prop} {z : AV} (m : List (Option Nat)) (H' : List OB) (hr : fn.results = #[.tmp q]) (h : F.lookup q = some z) (hz : z = .o b k n c) (hb : H[b]? = some (.arr e sz cap rows)) (hrs : (rows.drop k).take n = rs) (hn : rs.length = n) (hmb : m.contains (some b) = false)
    (hm : (m.filterMap id).Nodup) (hl : ∀ i, i < nl → m[i]? = some (some i)) (hH : ∀ g, CvH g m H true m H') (hq : ∀ v, Qr (.c (.r v rs)) H') : ARet P fn nl Qr .ret F H := by
 subst hz
 exact aret_of m (fun g => .c (.r (g (.o b k n c)) rs)) (fun _ => H') (by rw [hr]; exact .tmp h .nil) hm hl (fun _ => .frz rfl hb hrs hn hmb) hH (fun _ => hq _)
theorem aret_f2 {fn : Func} {nl q r b k n c sz cap : Nat} {e : TypeId} {rows rs : List (List CV)} {Qr : AV → List OB → Prop} {z z2 : AV} {v2 : CV} (m : List (Option Nat)) (H' : List OB) (hr : fn.results = #[.tmp q, .tmp r]) (h : F.lookup q = some z) (hz : z = .o b k n c) (h2 : F.lookup r = some z2) (hz2 : z2 = .c v2) (hb : H[b]? = some (.arr e sz cap rows)) (hrs : (rows.drop k).take n = rs) (hn : rs.length = n) (hmb : m.contains (some b) = false)
    (hm : (m.filterMap id).Nodup) (hl : ∀ i, i < nl → m[i]? = some (some i)) (hH : ∀ g, CvH g m H true m H') (hq : ∀ v, Qr (.t [.c (.r v rs), .c v2]) H') : ARet P fn nl Qr .ret F H := by
 subst hz; subst hz2
 exact aret_of m (fun g => .t [.c (.r (g (.o b k n c)) rs), .c v2]) (fun _ => H') (by rw [hr]; exact .tmp h (.tmp h2 .nil)) hm hl (fun _ => .tL (.cons (.frz rfl hb hrs hn hmb) (.cons (.c rfl) .nil))) hH (fun _ => hq _)
end
section
variable {P : Program} {N : Nat} {E : Env} {F : Fm} {H : List OB} {o : Oper} {Q : Exit → Fm → List OB → Prop} {ops : Array Oper} {rest : List Oper}
abbrev un : AV := .c (.s undef)
theorem skipped_of {S : Nat → Prop} {ρ : List (Option Nat)} {a : Act} {w : World} {i t : Nat} {oi : Oper} (hR : R N E S ρ F H a w) (hi : ops[i]? = some oi) (ht : oi.dst = some t) (hb : F.lookup t = some un) : yielded ops a.tmps i = none := by
 have := (hR.fr t _ hb).1
 unfold yielded
 simp only [hi, Option.bind_some, ht, this]
 rfl
theorem al_skip {i t d : Nat} {oi : Oper} {b b' : Bool} (hg : o.guard = some (i, b)) (hi : ops[i]? = some oi) (ht : oi.dst = some t) (hb : F.lookup t = some (.c (.s (.bool b')))) (hne : (b' == b) = false) (hd : o.dst = some d) (hN : d < N) (h : AL P N E ops rest ((d, un) :: F) H Q) :
    AL P N E ops (o :: rest) F H Q := fun S ρ a w hR => by
 have h1 := h S ρ _ w (hR.put hN (.c (.s _)))
 unfold wpList
 rw [if_neg (by
  simp only [Region.wanted, hg, yielded_of hR hi ht hb]
  cases b <;> cases b' <;> simp_all)]
 rw [hd]
 exact h1
theorem al_skipu {i t d : Nat} {oi : Oper} {b : Bool} (hg : o.guard = some (i, b)) (hi : ops[i]? = some oi) (ht : oi.dst = some t) (hb : F.lookup t = some un) (hd : o.dst = some d) (hN : d < N) (h : AL P N E ops rest ((d, un) :: F) H Q) :
    AL P N E ops (o :: rest) F H Q := fun S ρ a w hR => by
 have h1 := h S ρ _ w (hR.put hN (.c (.s _)))
 unfold wpList
 rw [if_neg (by simp [Region.wanted, hg, skipped_of hR hi ht hb])]
 rw [hd]
 exact h1
theorem at_skip {i j t d : Nat} {L : List (Nat × Option (List Nat))} {oj : Oper} {b b' : Bool} (ho : ops[i]? = some o) (hg : o.guard = some (j, b)) (hj : ops[j]? = some oj) (ht : oj.dst = some t) (hb : F.lookup t = some (.c (.s (.bool b')))) (hne : (b' == b) = false) (hd : o.dst = some d) (hN : d < N)
    (h : AT P N E ops L ((d, un) :: F) H Q) : AT P N E ops ((i, none) :: L) F H Q := fun S ρ a w hR => by
 refine wpT_r ho fun K hK => ?_
 rw [if_neg (by
  simp only [Region.wanted, hg, yielded_of hR hj ht hb]
  cases b <;> cases b' <;> simp_all)]
 rw [hd]
 exact hK _ (h S ρ _ w (hR.put hN (.c (.s _))))
theorem at_skipu {i j t d : Nat} {L : List (Nat × Option (List Nat))} {oj : Oper} {b : Bool} (ho : ops[i]? = some o) (hg : o.guard = some (j, b)) (hj : ops[j]? = some oj) (ht : oj.dst = some t) (hb : F.lookup t = some un) (hd : o.dst = some d) (hN : d < N)
    (h : AT P N E ops L ((d, un) :: F) H Q) : AT P N E ops ((i, none) :: L) F H Q := fun S ρ a w hR => by
 refine wpT_r ho fun K hK => ?_
 rw [if_neg (by simp [Region.wanted, hg, skipped_of hR hj ht hb])]
 rw [hd]
 exact hK _ (h S ρ _ w (hR.put hN (.c (.s _))))
end
section
variable {P : Program} {N : Nat} {E : Env} {F : Fm} {H : List OB} {o : Oper} {Q : Exit → Fm → List OB → Prop} {ops : Array Oper} {rest : List Oper}
def gd (ops : Array Oper) (o : Oper) (F : Fm) : Option Bool :=
 match o.guard with
 | none => none
 | some (i, b) => match ops[i]? with
  | none => none
  | some oi => match oi.dst with
   | none => none
   | some t => match F.lookup t with
    | some (.c (.s (.bool b'))) => some (b' == b)
    | some (.c (.s (.tuple a))) => if a.size = 0 then some false else none
    | _ => none
theorem gd_of {c : Bool} (h : gd ops o F = some c) : ∃ i b oi t, o.guard = some (i, b) ∧ ops[i]? = some oi ∧ oi.dst = some t ∧ ((∃ b', F.lookup t = some (.c (.s (.bool b'))) ∧ (b' == b) = c) ∨ (F.lookup t = some un ∧ c = false)) := by
 unfold gd at h
 cases hg : o.guard with
 | none => rw [hg] at h; cases h
 | some ib =>
  obtain ⟨i, b⟩ := ib
  rw [hg] at h; dsimp only at h
  cases hi : ops[i]? with
  | none => rw [hi] at h; cases h
  | some oi =>
   rw [hi] at h; dsimp only at h
   cases ht : oi.dst with
   | none => rw [ht] at h; cases h
   | some t =>
    rw [ht] at h; dsimp only at h
    refine ⟨i, b, oi, t, rfl, hi, ht, ?_⟩
    split at h
    ·rename_i b' hb; exact .inl ⟨b', hb, Option.some.inj h⟩
    ·rename_i a hb
     split at h
     ·rename_i h0
      obtain rfl : a = #[] := Array.eq_empty_of_size_eq_zero h0
      exact .inr ⟨hb, (Option.some.inj h).symm⟩
     ·cases h
    ·cases h
theorem G1 (hg : gd ops o F = some true) (h : AL P N E ops ({ o with guard := none } :: rest) F H Q) : AL P N E ops (o :: rest) F H Q := by
 obtain ⟨i, b, oi, t, h1, h2, h3, ⟨b', h4, h5⟩ | ⟨_, h5⟩⟩ := gd_of hg
 ·obtain rfl : b' = b := by simpa using h5
  exact al_gon h1 h2 h3 h4 h
 ·cases h5
theorem G2 {d : Nat} (hg : gd ops o F = some false) (hd : o.dst = some d) (hN : d < N) (h : AL P N E ops rest ((d, un) :: F) H Q) : AL P N E ops (o :: rest) F H Q := by
 obtain ⟨i, b, oi, t, h1, h2, h3, ⟨b', h4, h5⟩ | ⟨h4, _⟩⟩ := gd_of hg
 ·exact al_skip h1 h2 h3 h4 h5 hd hN h
 ·exact al_skipu h1 h2 h3 h4 hd hN h
end
section
variable {P : Program} {N : Nat} {E : Env} {F : Fm} {H : List OB} {o : Oper} {Q : Exit → Fm → List OB → Prop} {ops : Array Oper} {rest : List Oper}
theorem G3 {i d : Nat} {v : AV} {L : List (Nat × Option (List Nat))} (ho : ops[i]? = some o) (hg : gd ops o F = some true) (hd : o.dst = some d) (hN : d < N) (hr : Rd P N E o F H v) (k : AT P N E ops L ((d, v) :: F) H Q) : AT P N E ops ((i, none) :: L) F H Q := by
 obtain ⟨j, b, oj, t, h1, h2, h3, ⟨b', h4, h5⟩ | ⟨_, h5⟩⟩ := gd_of hg
 ·obtain rfl : b' = b := by simpa using h5
  exact at_gon ho h1 h2 h3 h4 hd hN hr k
 ·cases h5
theorem G4 {i d : Nat} {L : List (Nat × Option (List Nat))} (ho : ops[i]? = some o) (hg : gd ops o F = some false) (hd : o.dst = some d) (hN : d < N) (k : AT P N E ops L ((d, un) :: F) H Q) : AT P N E ops ((i, none) :: L) F H Q := by
 obtain ⟨j, b, oj, t, h1, h2, h3, ⟨b', h4, h5⟩ | ⟨h4, _⟩⟩ := gd_of hg
 ·exact at_skip ho h1 h2 h3 h4 h5 hd hN k
 ·exact at_skipu ho h1 h2 h3 h4 hd hN k
def fldC (off : Nat) : Option AV → Option AV
 | some (.p b k j) => some (.p b k (j + off))
 | some (.q v k sz row j) => some (.q v k sz row (j + off))
 | some (.c (.p v row)) => some (.q (ptS v) 0 1 row off)
 | _ => none
theorem rd_fx {t : TypeId} {x : Operand} {f off : Nat} {v : AV} (ho : o.op = .fieldAddr t x f) (ht : fieldOff P t f = some off) (h : fldC off (ev F x) = some v) : Rd P N E o F H v := by
 unfold fldC at h
 split at h
 ·rename_i b k j hx; injection h with h; subst h; exact rd_field ho hx ht
 ·rename_i w k sz row j hx; injection h with h; subst h; exact rd_fieldq ho hx ht
 ·rename_i w row hx; injection h with h; subst h; exact rd_fieldcp ho hx ht
 ·cases h
def lenC : Option AV → Option Nat
 | some (.o _ _ n _) => some n
 | some (.c (.r _ rows)) => some rows.length
 | _ => none
theorem rd_lx {t e : TypeId} {sz n : Nat} {x : Operand} (ho : o.op = .call { callee := .builtin .len, args := #[x], argTypes := #[t] }) (ht : elemSz P t = some (e, sz)) (h : lenC (ev F x) = some n) : Rd P N E o F H (.c (.s (.int .i64 n))) := by
 unfold lenC at h
 split at h
 ·rename_i b k m c hx; injection h with h; subst h; exact rd_len ho ht hx
 ·rename_i v rows hx; injection h with h; subst h; exact rd_lenr ho ht hx
 ·cases h
mutual
/-- Values without addresses of the call's own. -/
def AV.clo : AV → Bool
 | .c _ => true
 | .q .. => true
 | .a l => AV.cloL l
 | .t l => AV.cloL l
 | .f _ l => AV.cloL l
 | _ => false
def AV.cloL : List AV → Bool
 | [] => true
 | x :: l => match x.clo with
  | true => AV.cloL l
  | false => false
end
mutual
theorem cvt_clo (g : AV → Value) (m : List (Option Nat)) (H : List OB) (fz : Bool) : ∀ x : AV, x.clo = true → Cvt g m H fz x x
 | .c _, _ => .c rfl
 | .q .., _ => .q
 | .a l, h => .aL (cvl_clo g m H fz l (by rw [AV.clo] at h; exact h))
 | .t l, h => .tL (cvl_clo g m H fz l (by rw [AV.clo] at h; exact h))
 | .f _ l, h => .fL (cvl_clo g m H fz l (by rw [AV.clo] at h; exact h))
 | .p .., h => by simp [AV.clo] at h
 | .o .., h => by simp [AV.clo] at h
theorem cvl_clo (g : AV → Value) (m : List (Option Nat)) (H : List OB) (fz : Bool) : ∀ l : List AV, AV.cloL l = true → CvL g m H fz l l
 | [], _ => .nil
 | x :: l, h => by
  rw [AV.cloL] at h
  cases hx : x.clo with
  | false => rw [hx] at h; cases h
  | true =>
   rw [hx] at h
   exact .cons (cvt_clo g m H fz x hx) (cvl_clo g m H fz l h)
end
theorem C0 {g : AV → Value} {m : List (Option Nat)} {fz : Bool} {l : List AV} (h : AV.cloL l = true) : CvL g m H fz l l := cvl_clo g m H fz l h
end
def S1 := @aw_seq
def S2 := @aseq_n
def S3 := @aw_skip
def S4 := @aw_block
def S5 := @ablk_n
def S6 := @aseq_r
def S7 := @ablk_r
def S8 := @ablk_e
def S0 := @ablk_o
def SA := @aseq_e
def SB := @aw_ret
def SC := @aw_exit
def CB := @Cells.box
def CQ := @Cells.q
def CA := @Cells.arr
def K0 := @CvH.nil
def K1 := @CvH.box
def K2 := @CvH.arr
def K3 := @CvH.new
def L0 := @CvL.nil
def L1 := @CvL.cons
def W0 := @CvF.nil
def W1 := @CvF.cons
def V1 := @Cvt.c
def V2 := @Cvt.p
def V3 := @Cvt.o
def V4 := @Cvt.q
def V5 := @Cvt.nil
def V6 := @Cvt.frz
def V7 := @Cvt.aL
def V8 := @Cvt.tL
def V9 := @Cvt.fL
theorem nsl : (∀ m h (l : List AV), AV.emb m h (.a l) = .a (AV.embL m h l)) ∧ (∀ m h (l : List AV), AV.emb m h (.t l) = .t (AV.embL m h l)) ∧ (∀ m h fn (l : List AV), AV.emb m h (.f fn l) = .f fn (AV.embL m h l)) ∧ (∀ m h x, AV.emb m h (.c x) = .c x) ∧ (∀ m h v k sz row j, AV.emb m h (.q v k sz row j) = .q v k sz row j) ∧ (∀ m h b k j, AV.emb m h (.p b k j) = .p (embB m h b) k j) ∧ (∀ m h b k n z, AV.emb m h (.o b k n z) = .o (embB m h b) k n z) ∧
    (∀ m h, AV.embL m h [] = []) ∧ (∀ m h x (l : List AV), AV.embL m h (x :: l) = x.emb m h :: AV.embL m h l) ∧ (∀ m h l, OB.emb m h (.box l) = .box (AV.embL m h l)) ∧ (∀ m h e sz c r, OB.emb m h (.arr e sz c r) = .arr e sz c r) ∧ (∀ m h, OB.emb m h .dead = .dead) ∧ (∀ m h x v, OB.emb m h (.eqv x v) = .eqv (x.emb m h) v) ∧ (∀ m h b, embB m h b = if b < m.length then m.getD b 0 else h + (b - m.length)) ∧
    (∀ {α β : Type} (f : α → β) (a : α) (l : List α), (a :: l).map f = f a :: l.map f) ∧ (∀ {α β : Type} (f : α → β), [].map f = []) ∧ (∀ {α : Type} (l : List α), [] ++ l = l) ∧ (∀ {α : Type} (a : α) (l l' : List α), (a :: l) ++ l' = a :: (l ++ l')) ∧ (∀ {α : Type} (l : List α), l ++ [] = l) ∧
    (∀ {α : Type} (a : α) (l : List α), (a :: l).length = l.length + 1) ∧ (∀ {α : Type}, ([] : List α).length = 0) ∧ (∀ {α : Type} (a b : α), (if True then a else b) = a) ∧ (∀ {α : Type} (a b : α), (if False then a else b) = b) ∧ (∀ {α : Type} (a : α) (l : List α) (d : α), (a :: l).getD 0 d = a) ∧
    (∀ n : Nat, 0 + n = n) ∧ (∀ n : Nat, n + 0 = n) ∧ (∀ n : Nat, n - 0 = n) ∧ (∀ n : Nat, (n < n) = False) ∧ (∀ n : Nat, (n < 0) = False) ∧ ((0 < 1) = True) ∧ (∀ n : Nat, (n < n + 1) = True) := by
 refine ⟨?_, ?_, ?_, ?_, ?_, ?_, ?_, ?_, ?_, ?_, ?_, ?_, ?_, ?_, ?_, ?_, ?_, ?_, ?_, ?_, ?_, ?_, ?_, ?_, ?_, ?_, ?_, ?_, ?_, ?_, ?_⟩ <;> intros <;> first | rfl | simp
theorem NST {p q p' q' A : Prop} (hF : p) (hH : q) (h : p' → q' → A) (h1 : p → p' := by (intro h; (try simp only [nsl, Nat.reduceAdd, Nat.reduceLT, Nat.reduceSub] at h); exact h)) (h2 : q → q' := by (intro h; (try simp only [nsl, Nat.reduceAdd, Nat.reduceLT, Nat.reduceSub] at h); exact h)) : A := h (h1 hF) (h2 hH)
theorem NSU {p q p' q' A : Prop} (hF : p) (hH : q) (h : p' → q' → A) (h1 : p → p' := by (intro h; (try simp only [List.set_cons_zero, List.set_cons_succ, updH, posOf, lentArr, killF, killO, killV, AV.has, AV.hasL, AV.emb, AV.embL, OB.emb, embB, List.filter_cons, List.filter_nil, List.getElem?_cons_zero, List.getElem?_cons_succ, List.getD_cons_zero, List.getD_cons_succ, List.drop_succ_cons, List.drop_zero, List.drop_nil, List.contains_cons, List.contains_nil, Nat.reduceBEq, Nat.reduceEqDiff, beq_self_eq_true, Bool.or_false, Bool.false_or, Bool.or_true, Bool.true_or, Bool.false_eq_true, Option.map_some, Option.map_none, List.map_cons, List.map_nil, List.cons_append, List.nil_append, List.append_nil, List.length_cons, List.length_nil, Nat.reduceAdd, Nat.reduceLT, Nat.reduceSub, if_true, if_false, Nat.zero_add, Nat.add_zero, Nat.sub_zero, Nat.lt_irrefl, Nat.not_lt_zero, Nat.zero_lt_one, Nat.lt_add_one] at h); exact h)) (h2 : q → q' := by (intro h; (try simp only [List.set_cons_zero, List.set_cons_succ, updH, posOf, lentArr, killF, killO, killV, AV.has, AV.hasL, AV.emb, AV.embL, OB.emb, embB, List.filter_cons, List.filter_nil, List.getElem?_cons_zero, List.getElem?_cons_succ, List.getD_cons_zero, List.getD_cons_succ, List.drop_succ_cons, List.drop_zero, List.drop_nil, List.contains_cons, List.contains_nil, Nat.reduceBEq, Nat.reduceEqDiff, beq_self_eq_true, Bool.or_false, Bool.false_or, Bool.or_true, Bool.true_or, Bool.false_eq_true, Option.map_some, Option.map_none, List.map_cons, List.map_nil, List.cons_append, List.nil_append, List.append_nil, List.length_cons, List.length_nil, Nat.reduceAdd, Nat.reduceLT, Nat.reduceSub, if_true, if_false, Nat.zero_add, Nat.add_zero, Nat.sub_zero, Nat.lt_irrefl, Nat.not_lt_zero, Nat.zero_lt_one, Nat.lt_add_one] at h); exact h)) : A := h (h1 hF) (h2 hH)
end Go.Proofs.YtniolldgidgffaaGreatDoor
