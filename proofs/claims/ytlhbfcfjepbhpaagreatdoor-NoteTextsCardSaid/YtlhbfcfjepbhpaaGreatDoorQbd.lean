/- The document's words and numbers of texts, by value. -/
import Derived.Test.YtlhbfcfjepbhpaaGreatDoorQbc
import Derived.Laws.StructEq
import Derived.Test.YtlhbfcfjepbhpaaGreatDoorQba
import Derived.Test.YtlhbfcfjepbhpaaGreatDoorQaz
set_option linter.unusedSimpArgs false
set_option linter.unusedVariables false
-- NEWM
namespace Go.Proofs.YtlhbfcfjepbhpaaGreatDoor
open Go Go.RowKit
set_option maxRecDepth 100000
abbrev noRs (l : List Nt) : List (List CV) := l.map noR
def encO : Enc (List UInt8 × Int) := ⟨fun s => .agg #[.string (bst s.1), .int .i64 s.2], fun s => .a [.c (T s.1), .c (I s.2)], fun s ρ H => by simp [AV.den, AV.denL, CV.den], fun s w S ρ H => .a fun x hx => by
 simp only [List.mem_cons, List.not_mem_nil, or_false] at hx
 rcases hx with rfl | rfl
 ·exact .c (.s _)
 ·exact .c (.s _)⟩
def encB : Enc Bool := ⟨fun b => .bool b, fun b => .c (B b), fun b ρ H => rfl, fun b w S ρ H => .c (.s _)⟩
theorem chkI (b : Bool) (z : Int) (w : World) : (Instr.checkKey b 9999 3 (.int .i64 z)).run Tryz.prog w = .ok () w := by
 rw [show (9999 : Nat) = 9998 + 1 from rfl, Instr.checkKey]
 simp only [Sem.run_bind, zE1 Tryz.underlying3, Result.andThen_ok]
 rfl
theorem chkSt (b : Bool) (s : ByteArray) (w : World) : (Instr.checkKey b 9999 9 (.string s)).run Tryz.prog w = .ok () w := by
 rw [show (9999 : Nat) = 9998 + 1 from rfl, Instr.checkKey]
 simp only [Sem.run_bind, zE1 Tryz.underlying9, Result.andThen_ok]
 rfl
theorem keyOe (a c : List UInt8) (b d : Int) (w : World) : (Op.equal 112 (.agg #[.string (bst a), .int .i64 b]) (.agg #[.string (bst c), .int .i64 d])).run Tryz.prog w = .ok (decide (a = c) && b == d) w := by
 have u3 := Tryz.underlying3
 have a3 := Tryz.isAgg3
 have z3 := Tryz.sizeOf3
 have u9 := Tryz.underlying9
 have a9 := Tryz.isAgg9
 have z9 := Tryz.sizeOf9
 have hS : Tryz.prog.underlying 112 = some (.struct (Tryz.prog.fieldsOf 112)) := by kernel_rfl
 have hp : Tryz.prog.stoodInHeld 112 = false := by kernel_rfl
 unfold Op.equal Op.maxDepth
 rw [show (10000 : Nat) = 9999 + 1 from rfl, run_equalIn_agg w 9999 112 _ _ hS hp]
 simp only [Program.fieldsOf, Tryz.underlying112]
 have e1 : (a = c) = ((bst a).toList = (bst c).toList) := by rw [zc2, zc2]
 go_simp
 simp only [zc2]
 by_cases h1 : a = c <;> by_cases h2 : b = d <;> simp [h1, h2]
theorem keyOc (em : Bool) (a : ByteArray) (b : Int) (w : World) : (Instr.checkKey em 10000 112 (.agg #[.string a, .int .i64 b])).run Tryz.prog w = .ok () w := by
 have u3 := Tryz.underlying3
 have a3 := Tryz.isAgg3
 have z3 := Tryz.sizeOf3
 have u9 := Tryz.underlying9
 have a9 := Tryz.isAgg9
 have z9 := Tryz.sizeOf9
 have hc := chkI em
 have hs := chkSt em
 rw [show (10000 : Nat) = 9999 + 1 from rfl, Instr.checkKey]
 simp only [Sem.run_bind, zE1 Tryz.underlying112, Result.andThen_ok]
 go_simp
theorem keyO : KeyOk Tryz.prog 112 encO := by
 refine .ask Tryz.underlying112 (fun _ _ => rfl) (fun a b w => ?_) (fun b a w => keyOc _ _ _ w) (fun a => ?_)
 ·simp only [encO]
  rw [keyOe]
  congr 1
  obtain ⟨a1, a2⟩ := a
  obtain ⟨b1, b2⟩ := b
  rw [Bool.eq_iff_iff]
  simp
 ·simp [encO, Instr.sameBits]
  first | exact beq_self_eq_true _ | exact (show ((bst a.fst).data == (bst a.fst).data) = true by simp) | rfl
end Go.Proofs.YtlhbfcfjepbhpaaGreatDoor
-- NEWM
namespace Go.Proofs.YtlhbfcfjepbhpaaGreatDoor
open Go Go.RowKit
set_option maxRecDepth 100000
abbrev ky (x : Nt) : List UInt8 × Int := (x.st, x.no)
def badO : Option Nt → Nt → Bool
 | none, _ => false
 | some q, x => decide (0 ≤ cmpNt q x)
def chkA : Option Nt → List Nt → Int
 | _, [] => 0
 | p, x :: l => if ntF x ≠ 0 then ntF x else if badO p x = true then 7 else chkA (some x) l
theorem chkA_cons (p : Option Nt) (x : Nt) (l : List Nt) : chkA p (x :: l) = if ntF x ≠ 0 then ntF x else if badO p x = true then 7 else chkA (some x) l := by cases p <;> rfl
theorem chkA_nil (p : Option Nt) : chkA p [] = 0 := by cases p <;> rfl
def chkN (l : List Nt) : Int := if 2000 < l.length then 2 else if chkA none l ≠ 0 then chkA none l else if (l.map ky).Nodup then 0 else 6
def prv (l : List Nt) (k : Nat) : Option Nt := if k = 0 then none else l[k - 1]?
theorem drop_at {α : Type} {l : List α} {k : Nat} {n : α} (h : l[k]? = some n) : l.drop k = n :: l.drop (k + 1) := by
 obtain ⟨h1, h2⟩ := List.getElem?_eq_some_iff.1 h
 rw [List.drop_eq_getElem_cons h1, h2]
theorem prv_next {l : List Nt} {k : Nat} {x : Nt} (h : l[k]? = some x) : prv l (k + 1) = some x := by unfold prv; rw [if_neg (by omega)]; exact h
theorem zf2 {l : List Nt} {k : Nat} {x : Nt} (h : l[k]? = some x) : (noRs l)[k]? = some (noR x) := by rw [List.getElem?_map, h]; rfl
theorem map_take_at {l : List Nt} {k : Nat} {x : Nt} (h : l[k]? = some x) : (l.take (k + 1)).map ky = (l.take k).map ky ++ [ky x] := by rw [List.take_add_one, h]; simp
theorem rd_lkO {N : Nat} {E : Env} {F : Fm} {H : List OB} {o : Oper} {x ix : Operand} {b ck : Nat} {l : List (Nat × (List UInt8 × Int) × Bool)} {k : List UInt8 × Int} {q : Bool} (hq : (mget l k).getD false = q) (ho : o.op = .lookup 181 x ix false)
    (hx : ev F x = some (.mp b)) (hH : H[b]? = some (mpO encO encB l ck)) (hi : ev F ix = some (encO.x k)) : Rd Tryz.prog N E o F H (.c (B q)) := by
 have := rd_lookup (N := N) (E := E) (ke := encO) (ve := encB) (k := k) (z := false) keyO ho Tryz.underlying181 (by kernel_rfl) hx hH hi (fun ρ H => encO.den k ρ H)
 rwa [hq] at this
theorem ef_muO {N : Nat} {E : Env} {F : Fm} {H : List OB} {o : Oper} {x ix y : Operand} {b ck : Nat} {l : List (Nat × (List UInt8 × Int) × Bool)} {k : List UInt8 × Int} {z : Bool} (ho : o.op = .mapUpdate 181 x ix y) (hd : o.dst = none)
    (hx : ev F x = some (.mp b)) (hH : H[b]? = some (mpO encO encB l ck)) (hi : ev F ix = some (encO.x k)) (hy : ev F y = some (encB.x z)) : Ef Tryz.prog N E o F H fun F' H' => F' = F ∧ H' = H.set b (mpO encO encB (mset ck k z l) (mclk ck k l)) :=
 ef_mapset (ke := encO) (ve := encB) (k := k) (z := z) keyO ho hd Tryz.underlying181 hx hH hi (fun ρ H => encO.den k ρ H) hy (fun ρ H => encB.den z ρ H)
set_option maxHeartbeats 2000000 in
theorem zc4 (v : Value) (l : List Nt) (hl : l.length ≤ 1000000) (hs : ∀ x ∈ l, NtS x) : ACalls Tryz.prog 52 [.c (.r v (noRs l))] [] fun u H => u = .c (I (chkN l)) ∧ H = [] := by
 have e1 : (noRs l).length = l.length := by simp
 refine zg (N := 56) Tryz.func52 rfl rfl (by simp) fun E hE => ?_
 refine WA ?_
 refine WA ?_
 refine zw rfl (fun h0 => ?_) (fun h0 => ?_)
 ·refine WA ?_
  exact zh [] _ rfl rfl rfl (by decide) (ZNK rfl) (fun _ => .nil) ⟨by rw [chkN, if_pos (by omega)], rfl⟩
 have e2 : chkN l = if chkA none l ≠ 0 then chkA none l else if (l.map ky).Nodup then 0 else 6 := by rw [chkN, if_neg (by omega)]
 refine ZZ ?_
 refine WA ?_
 refine zK (fun m F H => ∃ (k : Nat), m + k = l.length ∧ chkA (prv l k) (l.drop k) = chkA none l ∧ F = [(0, .c (.r v (noRs l))), (13, .c (.r v (noRs l))), (14, .c (I (noRs l).length)), (15, .c (I k))] ∧ H = []) ?_ ?_
 ·refine zp [] (fun _ => [(0, .c (.r v (noRs l))), (13, .c (.r v (noRs l))), (14, .c (I (noRs l).length)), (15, .c (I (0 : Nat)))]) (fun _ => []) (by decide) (ZNL hE) ZCF (fun _ => .nil) (fun _ => ?_)
  exact ⟨l.length, 0, by omega, rfl, rfl, rfl⟩
 ·rintro m F H ⟨k, hk, hf, rfl, rfl⟩
  refine WA ?_
  refine zw rfl (fun hlt => ?_) (fun hge => ?_)
  ·obtain ⟨x, hx⟩ : ∃ n, l[k]? = some n := ⟨_, List.getElem?_eq_getElem (by omega)⟩
   have hrow0 := zf2 hx
   have hxs := hs x (List.mem_of_getElem? hx)
   rw [drop_at hx, chkA_cons] at hf
   have hpn := prv_next hx
   obtain ⟨st, no, at_, kn, pr, jb, sp, n, of_, ot⟩ := x
   have hrow : (noRs l)[k]? = some [T st, I no, I at_, I kn, T pr, T jb, T sp, I n, T of_, I ot] := hrow0
   refine WA ?_
   refine WR ?_
   refine zf rfl (zc false (fun _ => formed_v ⟨st, no, at_, kn, pr, jb, sp, n, of_, ot⟩ hxs) rfl .fn rfl (by decide) (by kernel_rfl) rfl (fun _ => .cons (.aL (C0 rfl)) .nil) (by simp)) ?_
   rintro _ _ ⟨_, _, _, ⟨rfl, rfl⟩, hF, hH⟩
   (refine NST hF hH ?_; clear hF hH; rintro rfl rfl)
   refine WE ?_
   generalize ntF ⟨st, no, at_, kn, pr, jb, sp, n, of_, ot⟩ = e at hf ⊢
   refine WA ?_
   refine zw rfl (fun h1 => ?_) (fun h1 => ?_)
   ·rw [if_pos h1] at hf
    refine WA ?_
    exact zh [] _ rfl rfl rfl (by decide) (ZNK rfl) (fun _ => .nil) ⟨by rw [e2, ← hf, if_pos h1], rfl⟩
   rw [if_neg h1] at hf
   refine ZZ ?_
   obtain ⟨q, hq⟩ : ∃ q, badO (prv l k) ⟨st, no, at_, kn, pr, jb, sp, n, of_, ot⟩ = q := ⟨_, rfl⟩
   rw [hq] at hf
   refine zA1 (fun F H => ∃ p, F = [(0, .c (.r v (noRs l))), (13, .c (.r v (noRs l))), (14, .c (I (noRs l).length)), (15, .c (I k)), (36, .c (B q))] ∧ H = [.box p]) ?_ ?_ zq2
   ·by_cases hk0 : k = 0
    ·subst hk0
     have hq' : q = false := hq.symm
     subst hq'
     refine ZZ ?_
     refine zk [(0, none), (1, none), (2, none), (3, none), (4, none), (5, none), (6, none), (7, none), (8, none), (9, some []), (10, none), (11, none)] zS (by kernel_rfl) ?_
     refine WP ?_
     first | refine zm3 rfl rfl rfl (by decide) ⟨zm, ?_⟩ | (refine zn3 rfl (zc false (fun _ => compareN_v ⟨st, no, at_, kn, pr, jb, sp, n, of_, ot⟩ ⟨st, no, at_, kn, pr, jb, sp, n, of_, ot⟩) rfl .fn rfl (by decide) (by kernel_rfl) rfl (fun _ => .cons (.aL (C0 rfl)) (.cons (.aL (C0 rfl)) .nil)) (by simp)) ?_; rintro _ _ ⟨_, _, _, ⟨rfl, rfl⟩, hF, hH⟩; (refine NST hF hH ?_; clear hF hH; rintro rfl rfl); refine ⟨zm, ?_⟩)
     refine WQ ?_
     all_goals refine zp [some 0] (fun _ => [(0, .c (.r v (noRs l))), (13, .c (.r v (noRs l))), (14, .c (I (noRs l).length)), (15, .c (I (0 : Nat))), (36, .c (B false))]) (fun _ => [.box [.c (T st), .c (I no), .c (I at_), .c (I kn), .c (T pr), .c (T jb), .c (T sp), .c (I n), .c (T of_), .c (I ot)]]) (by decide) (ZNL hE) ZCF ZCH (fun _ => ?_)
     all_goals exact ⟨_, rfl, rfl⟩
    ·obtain ⟨y, hy⟩ : ∃ n, l[k - 1]? = some n := ⟨_, List.getElem?_eq_getElem (by omega)⟩
     have hkp : (0 : Int) < (k : Int) := by omega
     have hpy : prv l k = some y := by unfold prv; rw [if_neg hk0]; exact hy
     rw [hpy] at hq
     have hq' : decide (0 ≤ cmpNt y ⟨st, no, at_, kn, pr, jb, sp, n, of_, ot⟩) = q := hq
     have hrowy0 := zf2 hy
     have hk1 : ((k : Int) - 1) = ((k - 1 : Nat) : Int) := by omega
     obtain ⟨y0, y1, y2, y3, y4, y5, y6, y7, y8, y9⟩ := y
     have hrowy : (noRs l)[k - 1]? = some [T y0, I y1, I y2, I y3, T y4, T y5, T y6, I y7, T y8, I y9] := hrowy0
     refine ZZ ?_
     refine zk [(0, none), (1, none), (2, none), (3, none), (4, none), (5, none), (6, none), (7, none), (8, none), (9, some []), (10, none), (11, none)] zS (by kernel_rfl) ?_
     refine WP ?_
     first | refine zm3 rfl rfl rfl (by decide) ⟨zm, ?_⟩ | (refine zn3 rfl (zc false (fun _ => compareN_v ⟨y0, y1, y2, y3, y4, y5, y6, y7, y8, y9⟩ ⟨st, no, at_, kn, pr, jb, sp, n, of_, ot⟩) rfl .fn rfl (by decide) (by kernel_rfl) rfl (fun _ => .cons (.aL (C0 rfl)) (.cons (.aL (C0 rfl)) .nil)) (by simp)) ?_; rintro _ _ ⟨_, _, _, ⟨rfl, rfl⟩, hF, hH⟩; (refine NST hF hH ?_; clear hF hH; rintro rfl rfl); refine ⟨zm, ?_⟩)
     refine WQ ?_
     all_goals refine zp [some 0] (fun _ => [(0, .c (.r v (noRs l))), (13, .c (.r v (noRs l))), (14, .c (I (noRs l).length)), (15, .c (I k)), (36, .c (B q))]) (fun _ => [.box [.c (T st), .c (I no), .c (I at_), .c (I kn), .c (T pr), .c (T jb), .c (T sp), .c (I n), .c (T of_), .c (I ot)]]) (by decide) (ZNL hE) ZCF ZCH (fun _ => ?_)
     all_goals exact ⟨_, rfl, rfl⟩
   rintro F H ⟨p, rfl, rfl⟩
   cases q with
   | true =>
    refine zb rfl ?_
    refine WA ?_
    exact zh [] _ rfl rfl rfl (by decide) (ZNK rfl) (fun _ => .nil) ⟨by rw [e2, ← hf]; rfl, rfl⟩
   | false =>
    refine za rfl ?_
    refine ZZ ?_
    refine WA ?_
    refine zp [] (fun _ => [(0, .c (.r v (noRs l))), (13, .c (.r v (noRs l))), (14, .c (I (noRs l).length)), (15, .c (I (k + 1 : Nat)))]) (fun _ => []) (by decide) (ZNL hE) ZCF (fun _ => .nil) (fun _ => ?_)
    exact ⟨m - 1, by omega, k + 1, by omega, by rw [hpn, ← hf]; rfl, rfl, rfl⟩
  have h0' : chkA none l = 0 := by rw [← hf, List.drop_eq_nil_of_le (by omega), chkA_nil]
  rw [if_neg (by rw [h0']; simp)] at e2
  refine ZZ ?_
  refine ZR ?_
  refine zf rfl (ef_mkmap rfl rfl (by decide)) ?_
  rintro _ _ ⟨rfl, rfl⟩
  refine WE ?_
  refine WA ?_
  refine zK (fun m F H => ∃ (k mk : Nat) (ml : List (Nat × (List UInt8 × Int) × Bool)), m + k = l.length ∧ ((l.take k).map ky).Nodup ∧ (∀ s, (mget ml s).getD false = ((l.take k).map ky).contains s) ∧ F = [(6, .mp 0), (39, .c (.r v (noRs l))), (40, .c (I (noRs l).length)), (41, .c (I k))] ∧ H = [mpO encO encB ml mk]) ?_ ?_
  ·refine zp [some 0] (fun _ => [(6, .mp 0), (39, .c (.r v (noRs l))), (40, .c (I (noRs l).length)), (41, .c (I (0 : Nat)))]) (fun _ => [mpO encO encB [] 0]) (by decide) (ZNL hE) ZCF ZCH (fun _ => ?_)
   exact ⟨l.length, 0, 0, [], by omega, by simp, by simp [mget], rfl, rfl⟩
  ·rintro m F H ⟨k, mk, ml, hk, hd, hm, rfl, rfl⟩
   refine WA ?_
   refine zw rfl (fun hlt => ?_) (fun hge => ?_)
   ·obtain ⟨x, hx⟩ : ∃ n, l[k]? = some n := ⟨_, List.getElem?_eq_getElem (by omega)⟩
    have hrow0 := zf2 hx
    have hmt := map_take_at hx
    obtain ⟨st, no, at_, kn, pr, jb, sp, n, of_, ot⟩ := x
    have hrow : (noRs l)[k]? = some [T st, I no, I at_, I kn, T pr, T jb, T sp, I n, T of_, I ot] := hrow0
    obtain ⟨q, hq⟩ : ∃ q, (mget ml (st, no)).getD false = q := ⟨_, rfl⟩
    have hq2 := hm (st, no)
    rw [hq] at hq2
    refine WA ?_
    refine WA ?_
    refine ZR ?_
    iterate 2 refine WX1 ?_
    refine ZA (rd_lkO (k := (st, no)) (l := ml) (ck := mk) hq rfl rfl rfl rfl) ?_
    refine WE ?_
    cases q with
    | true =>
     refine zb rfl ?_
     refine WA ?_
     refine zh [] _ rfl rfl rfl (by decide) (ZNK rfl) (fun _ => .nil) ⟨?_, rfl⟩
     rw [e2, if_neg]
     intro hn
     rw [← List.take_append_drop (k + 1) l, List.map_append, hmt] at hn
     have h3 := (List.nodup_append.1 (List.nodup_append.1 hn).1).2.2
     have h4 := List.contains_iff_mem.1 hq2.symm
     exact h3 _ h4 _ (List.mem_singleton.2 rfl) rfl
    | false =>
     refine za rfl ?_
     refine ZZ ?_
     refine ZR ?_
     iterate 2 refine WX1 ?_
     refine zf rfl (ef_muO (k := (st, no)) (l := ml) (ck := mk) (z := true) rfl rfl rfl rfl rfl rfl) ?_
     rintro _ _ ⟨rfl, rfl⟩
     refine WE ?_
     refine WA ?_
     refine zp [some 0] (fun _ => [(6, .mp 0), (39, .c (.r v (noRs l))), (40, .c (I (noRs l).length)), (41, .c (I (k + 1 : Nat)))]) (fun _ => [mpO encO encB (mset mk (st, no) true ml) (mclk mk (st, no) ml)]) (by decide) (ZNL hE) ZCF ZCH (fun _ => ?_)
     refine ⟨m - 1, by omega, k + 1, _, _, by omega, ?_, fun s => ?_, rfl, rfl⟩
     ·rw [hmt]
      refine List.nodup_append.2 ⟨hd, by simp, fun a ha b hb e => ?_⟩
      rw [List.mem_singleton] at hb
      subst hb; subst e
      rw [List.contains_iff_mem.2 ha] at hq2; cases hq2
     ·rw [hmt, zh2]
      by_cases h : s = (st, no)
      ·rw [if_pos h, h]; simp
      ·rw [if_neg h, hm, List.contains_eq_mem, List.contains_eq_mem]; simp [h]
   refine ZZ ?_
   refine WA ?_
   refine zh [] _ rfl rfl rfl (by decide) (ZNK rfl) (fun _ => .nil) ⟨?_, rfl⟩
   rw [List.take_of_length_le (by omega)] at hd
   rw [e2, if_pos hd]
end Go.Proofs.YtlhbfcfjepbhpaaGreatDoor
-- NEWM
namespace Go.Proofs.YtlhbfcfjepbhpaaGreatDoor
open Go Go.RowKit
set_option maxRecDepth 100000
theorem zr3 : ACalls Tryz.prog 62 [] [] fun u H => (∃ V, u = .c (.r V (wR kwL))) ∧ H = [] := by
 refine zg (N := 2) Tryz.func62 rfl rfl (by simp) fun E hE => ?_
 refine WA ?_
 refine ZR ?_
 refine zf rfl Ybsr ?_
 rintro _ _ ⟨vst, rfl, rfl⟩
 refine WE ?_
 exact zh [] _ rfl rfl rfl (by decide) (ZNK rfl) (fun _ => .nil) ⟨⟨_, rfl⟩, rfl⟩
theorem idxS_ge (w : List UInt8) : ∀ (l : List (List UInt8)) (k : Nat), decide (0 ≤ idxS w l k) = decide (w ∈ l)
 | [], _ => rfl
 | a :: l, k => by
  rw [idxS]
  by_cases h : w = a
  ·subst h; simp
  ·rw [if_neg h, idxS_ge w l (k + 1)]
   simp [h]
theorem scontains_v (V : Value) (ws : List (List UInt8)) (w : List UInt8) (hl : ws.length ≤ 1000000) : ACalls Tryz.prog 172 [.c (.r V (wR ws)), .c (T w)] [] fun u H => u = .c (B (decide (w ∈ ws))) ∧ H = [] := by
 have hs := sindex_v V ws w hl
 have hg := idxS_ge w ws 0
 generalize idxS w ws 0 = i at hs hg
 refine zg (N := 9) Tryz.func172 rfl rfl (by simp) fun E hE => ?_
 by_cases h : 0 ≤ i
 ·repeat' (first
   | (with_reducible refine zC ?_) | (with_reducible refine zA ?_) | (with_reducible refine zE ?_) | (with_reducible refine zI ?_) | (with_reducible refine zG ?_) | (with_reducible refine zJ ?_) | (with_reducible refine zH rfl ?_) | (with_reducible refine zF ?_) | (with_reducible refine zq ?_) | (with_reducible refine zj ?_) | (with_reducible refine zD ?_) | (with_reducible refine zt ?_)
   | refine zb rfl ?_ | refine za rfl ?_ | refine zr rfl (by assumption) ?_ | refine zo rfl (by assumption) ?_ | refine zw rfl (fun _ => ?_) (fun _ => ?_) | refine zn rfl (fun _ => ?_) (fun _ => ?_)
   | (refine zd (id := 1) ?_
      refine WO ?_
      refine zf rfl (zc false (fun _ => hs) rfl .fn rfl (by decide) (by kernel_rfl) rfl (fun _ => C0 rfl) (by simp)) ?_
      rintro _ _ ⟨_, _, _, ⟨rfl, rfl⟩, hF, hH⟩
      (refine NST hF hH ?_; clear hF hH; rintro rfl rfl)
      refine WE ?_)
   | (refine zd ?_; refine WE ?_))
  exact zh [] _ rfl rfl rfl (by decide) (ZNK rfl) (fun _ => .nil) ⟨congrArg (fun z => AV.c (B z)) (by rw [← hg]; simp [h]), rfl⟩
 ·repeat' (first
   | (with_reducible refine zC ?_) | (with_reducible refine zA ?_) | (with_reducible refine zE ?_) | (with_reducible refine zI ?_) | (with_reducible refine zG ?_) | (with_reducible refine zJ ?_) | (with_reducible refine zH rfl ?_) | (with_reducible refine zF ?_) | (with_reducible refine zq ?_) | (with_reducible refine zj ?_) | (with_reducible refine zD ?_) | (with_reducible refine zt ?_)
   | refine zb rfl ?_ | refine za rfl ?_ | refine zr rfl (by assumption) ?_ | refine zo rfl (by assumption) ?_ | refine zw rfl (fun _ => ?_) (fun _ => ?_) | refine zn rfl (fun _ => ?_) (fun _ => ?_)
   | (refine zd (id := 1) ?_
      refine WO ?_
      refine zf rfl (zc false (fun _ => hs) rfl .fn rfl (by decide) (by kernel_rfl) rfl (fun _ => C0 rfl) (by simp)) ?_
      rintro _ _ ⟨_, _, _, ⟨rfl, rfl⟩, hF, hH⟩
      (refine NST hF hH ?_; clear hF hH; rintro rfl rfl)
      refine WE ?_)
   | (refine zd ?_; refine WE ?_))
  exact zh [] _ rfl rfl rfl (by decide) (ZNK rfl) (fun _ => .nil) ⟨congrArg (fun z => AV.c (B z)) (by rw [← hg]; simp [h]), rfl⟩
theorem rwords_v (s : List UInt8) (hl : s.length ≤ 900000) : ACalls Tryz.prog 120 [.c (T s)] [] fun u H => (∃ V, u = .t [.c (.r V (wR (spl 32 s))), .c (B (wrdsF s).isSome)]) ∧ H = [] := by
 have h1 := zN2 (c := 32) s
 have h2 := List.count_le_length (a := 32) (l := s)
 have hq : (!decide ([] ∈ spl 32 s)) = (wrdsF s).isSome := by
  unfold wrdsF
  split
  ·rename_i h; rw [decide_eq_true h]; rfl
  ·rename_i h; rw [decide_eq_false h]; rfl
 rw [← hq]
 refine zg (N := 11) Tryz.func120 rfl rfl (by simp) fun E hE => ?_
 refine WA ?_
 refine WR ?_
 refine zf rfl (zc false (fun _ => split_v s 32 (by omega)) rfl .fn rfl (by decide) (by kernel_rfl) rfl (fun _ => C0 rfl) (by simp)) ?_
 rintro _ _ ⟨_, _, _, ⟨⟨va, rfl⟩, rfl⟩, hF, hH⟩
 (refine NST hF hH ?_; clear hF hH; rintro rfl rfl)
 refine WE ?_
 refine WR ?_
 refine zf rfl (zc false (fun _ => scontains_v va (spl 32 s) [] (by omega)) rfl .fn rfl (by decide) (by kernel_rfl) rfl (fun _ => C0 rfl) (by simp)) ?_
 rintro _ _ ⟨_, _, _, ⟨rfl, rfl⟩, hF, hH⟩
 (refine NST hF hH ?_; clear hF hH; rintro rfl rfl)
 refine WE ?_
 exact zu (us := [.c (.r va (wR (spl 32 s))), .c (B (!decide ([] ∈ spl 32 s)))]) [] (fun _ => .t [.c (.r va (wR (spl 32 s))), .c (B (!decide ([] ∈ spl 32 s)))]) (fun _ => []) (.tmp rfl (.tmp rfl .nil)) (by decide) (ZNK rfl) (fun _ => .tL (.cons (.c rfl) (.cons (.c rfl) .nil))) ZCH (fun _ => ⟨⟨_, rfl⟩, rfl⟩)
theorem tpre_v (s : List UInt8) : ACalls Tryz.prog 235 [.c (T s), .c (T [45])] [] fun u H => u = .c (T (dgs s)) ∧ H = [] := by
 rw [← zl4]
 have hp := hpre_v s 45
 obtain ⟨q, hq⟩ : ∃ q, decide (s.head? = some 45) = q := ⟨_, rfl⟩
 rw [hq] at hp
 refine zg (N := 13) Tryz.func235 rfl rfl (by simp) fun E hE => ?_
 cases q with
 | false =>
  rw [if_neg (of_decide_eq_false hq)]
  refine WA ?_
  refine WR ?_
  refine zf rfl (zc false (fun _ => hp) rfl .fn rfl (by decide) (by kernel_rfl) rfl (fun _ => C0 rfl) (by simp)) ?_
  rintro _ _ ⟨_, _, _, ⟨rfl, rfl⟩, hF, hH⟩
  (refine NST hF hH ?_; clear hF hH; rintro rfl rfl)
  refine WE ?_
  refine za rfl ?_
  refine ZZ ?_
  refine WA ?_
  exact zh [] _ rfl rfl rfl (by decide) (ZNK rfl) (fun _ => .nil) ⟨rfl, rfl⟩
 | true =>
  have hd := of_decide_eq_true hq
  rw [if_pos hd]
  cases s with
  | nil => cases hd
  | cons b l =>
   refine WA ?_
   refine WR ?_
   refine zf rfl (zc false (fun _ => hp) rfl .fn rfl (by decide) (by kernel_rfl) rfl (fun _ => C0 rfl) (by simp)) ?_
   rintro _ _ ⟨_, _, _, ⟨rfl, rfl⟩, hF, hH⟩
   (refine NST hF hH ?_; clear hF hH; rintro rfl rfl)
   refine WE ?_
   refine zb rfl ?_
   refine ZZ ?_
   refine ZR ?_
   iterate 3 refine WX1 ?_
   refine ZA (zr1 (i := 1) (j := (List.cons b l).length) rfl Tryz.underlying9 rfl (.inr ⟨_, _, _, rfl, rfl, rfl⟩) (.inl ⟨rfl, rfl⟩) (by simp) (by simp)) ?_
   refine WE ?_
   exact zh [] _ rfl rfl rfl (by decide) (ZNK rfl) (fun _ => .nil) ⟨by simp, rfl⟩
theorem stpre_v (s : List UInt8) : ACalls Tryz.prog 158 [.c (T s), .c (T [45])] [] fun u H => u = .c (T (dgs s)) ∧ H = [] := by
 refine zg (N := 8) Tryz.func158 rfl rfl (by simp) fun E hE => ?_
 repeat' (first
  | (with_reducible refine zC ?_) | (with_reducible refine zA ?_) | (with_reducible refine zE ?_) | (with_reducible refine zI ?_) | (with_reducible refine zG ?_) | (with_reducible refine zJ ?_) | (with_reducible refine zH rfl ?_) | (with_reducible refine zF ?_) | (with_reducible refine zq ?_) | (with_reducible refine zj ?_) | (with_reducible refine zD ?_) | (with_reducible refine zt ?_)
  | refine zb rfl ?_ | refine za rfl ?_ | refine zr rfl (by assumption) ?_ | refine zo rfl (by assumption) ?_ | refine zw rfl (fun _ => ?_) (fun _ => ?_) | refine zn rfl (fun _ => ?_) (fun _ => ?_)
  | (refine zd (id := 1) ?_
     refine WO ?_
     refine zf rfl (zc false (fun _ => tpre_v s) rfl .fn rfl (by decide) (by kernel_rfl) rfl (fun _ => C0 rfl) (by simp)) ?_
     rintro _ _ ⟨_, _, _, ⟨rfl, rfl⟩, hF, hH⟩
     (refine NST hF hH ?_; clear hF hH; rintro rfl rfl)
     refine WE ?_)
  | (refine zd ?_; refine WE ?_))
 exact zh [] _ rfl rfl rfl (by decide) (ZNK rfl) (fun _ => .nil) ⟨rfl, rfl⟩
def rN (s : List UInt8) : Int := if dokB s = true then svN s else 0
theorem zq3 {s : List UInt8} {n : Int} (h : numF s = some n) : rN s = n := by
 unfold numF at h
 split at h
 ·rename_i hh; unfold rN; rw [if_pos hh.1]; exact Option.some.inj h
 ·cases h
theorem zv2 (s : List UInt8) (hl : s.length ≤ 1000000) : ACallsW TabX false Tryz.prog 101 [.c (T s), .c (I 15)] [] fun u H => u = .t [.c (I (rN s)), .c (B (numF s).isSome)] ∧ H = [] := by
 have hdl : (dgs s).length ≤ s.length ∧ s.length ≤ (dgs s).length + 1 := by
  rw [← zl4]; split
  ·rw [List.length_tail]; omega
  ·omega
 obtain ⟨hdl1, hdl2⟩ := hdl
 have hdk := @dokB_iff s
 have hfail : ¬ dokB s = true → numF s = none ∧ rN s = 0 := fun h => ⟨by unfold numF; rw [if_neg fun hh => h hh.1], by unfold rN; rw [if_neg h]⟩
 obtain ⟨q, hq⟩ : ∃ q, outB ((dgs s).length : Int) 1 15 = q := ⟨_, rfl⟩
 obtain ⟨qt, hqt⟩ : ∃ q, decide (trB digL (dgs s) ≠ []) = q := ⟨_, rfl⟩
 refine zD1 zk2 false (N := 35) Tryz.func101 rfl rfl (by simp) fun E hE hP hX => ?_
 refine WA ?_
 refine WR ?_
 refine zf rfl (zc false (fun _ => stpre_v s) rfl .fn rfl (by decide) (by kernel_rfl) rfl (fun _ => C0 rfl) (by simp)) ?_
 rintro _ _ ⟨_, _, _, ⟨rfl, rfl⟩, hF, hH⟩
 (refine NST hF hH ?_; clear hF hH; rintro rfl rfl)
 refine WE ?_
 cases q with
 | true =>
  have hin : ACalls Tryz.prog 150 [.c (I (dgs s).length), .c (I 1), .c (I 15)] [] fun u H => u = .c (B false) ∧ H = [] := by
   have := in1_v ((dgs s).length : Int) 1 15
   rw [hq] at this
   exact this
  obtain ⟨f1, f2⟩ := hfail fun h => by
   obtain ⟨a1, a2, a3⟩ := hdk.1 h
   have := List.length_pos_iff.2 a1
   unfold outB at hq
   simp at hq
   omega
  rw [f1, f2]
  refine WR ?_
  refine zf rfl (zc false (fun _ => hin) rfl .fn rfl (by decide) (by kernel_rfl) rfl (fun _ => C0 rfl) (by simp)) ?_
  rintro _ _ ⟨_, _, _, ⟨rfl, rfl⟩, hF, hH⟩
  (refine NST hF hH ?_; clear hF hH; rintro rfl rfl)
  refine WO ?_
  first | refine ZS ?_ | (refine G1 rfl ?_; refine zb3 rfl rfl (by decide) ZFALSE ?_) | skip
  first | refine ZS ?_ | (refine G1 rfl ?_; refine zb3 rfl rfl (by decide) ZFALSE ?_) | skip
  refine WE ?_
  refine zb rfl ?_
  refine ZZ ?_
  refine WA ?_
  exact zC1 [] _ rfl rfl rfl rfl rfl (by decide) (ZNK rfl) (fun _ => .nil) ⟨rfl, rfl⟩
 | false =>
  have hin : ACalls Tryz.prog 150 [.c (I (dgs s).length), .c (I 1), .c (I 15)] [] fun u H => u = .c (B true) ∧ H = [] := by
   have := in1_v ((dgs s).length : Int) 1 15
   rw [hq] at this
   exact this
  have hb : 1 ≤ (dgs s).length ∧ (dgs s).length ≤ 15 := by unfold outB at hq; simp at hq; omega
  cases qt with
  | true =>
   have hna := of_decide_eq_true hqt
   obtain ⟨f1, f2⟩ := hfail fun h => hna (trD_nil.2 (hdk.1 h).2.2)
   rw [f1, f2]
   refine WR ?_
   refine zf rfl (zc false (fun _ => hin) rfl .fn rfl (by decide) (by kernel_rfl) rfl (fun _ => C0 rfl) (by simp)) ?_
   rintro _ _ ⟨_, _, _, ⟨rfl, rfl⟩, hF, hH⟩
   (refine NST hF hH ?_; clear hF hH; rintro rfl rfl)
   refine WO ?_
   first | refine ZS ?_ | (refine G1 rfl ?_; refine zf rfl (zc false (fun _ => zM2 digL _ (by decide) (by decide) (by omega)) rfl .fn rfl (by decide) (by kernel_rfl) rfl (fun _ => C0 rfl) (by simp)) ?_; rintro _ _ ⟨_, _, _, ⟨rfl, rfl⟩, hF, hH⟩; (refine NST hF hH ?_; clear hF hH; rintro rfl rfl)) | skip
   first | refine ZP (zZ (b := []) hqt rfl Tryz.underlying9 rfl rfl) ?_ | refine ZS ?_
   refine WE ?_
   refine zb rfl ?_
   refine ZZ ?_
   refine WA ?_
   exact zC1 [] _ rfl rfl rfl rfl rfl (by decide) (ZNK rfl) (fun _ => .nil) ⟨rfl, rfl⟩
  | false =>
   have hall : (dgs s).all digB = true := trD_nil.1 (Decidable.not_not.1 (of_decide_eq_false hqt))
   have hdok := hdk.2 ⟨fun h => by rw [h] at hb; simp at hb, hb.2, hall⟩
   have hv := val_lt hb.2 hall
   have hsv : -1000000000000000 < svN s ∧ svN s < 1000000000000000 := by unfold svN; split <;> omega
   obtain ⟨qc, hqc⟩ : ∃ q, decide (Lib.itoa (svN s) = s) = q := ⟨_, rfl⟩
   have hnf : (numF s).isSome = qc := by
    unfold numF
    rw [← hqc]
    by_cases hc : Lib.itoa (svN s) = s
    ·rw [if_pos ⟨hdok, (canon_iff hdok).1 hc⟩, decide_eq_true hc]; rfl
    ·rw [if_neg fun h => hc ((canon_iff hdok).2 h.2), decide_eq_false hc]; rfl
   rw [hnf, show rN s = svN s by unfold rN; rw [if_pos hdok]]
   have hato := atoi_v s (svN s) (by omega) (atoi_sv hdok)
   clear hfail hdk
   refine WR ?_
   refine zf rfl (zc false (fun _ => hin) rfl .fn rfl (by decide) (by kernel_rfl) rfl (fun _ => C0 rfl) (by simp)) ?_
   rintro _ _ ⟨_, _, _, ⟨rfl, rfl⟩, hF, hH⟩
   (refine NST hF hH ?_; clear hF hH; rintro rfl rfl)
   refine WO ?_
   first | refine ZS ?_ | (refine G1 rfl ?_; refine zf rfl (zc false (fun _ => zM2 digL _ (by decide) (by decide) (by omega)) rfl .fn rfl (by decide) (by kernel_rfl) rfl (fun _ => C0 rfl) (by simp)) ?_; rintro _ _ ⟨_, _, _, ⟨rfl, rfl⟩, hF, hH⟩; (refine NST hF hH ?_; clear hF hH; rintro rfl rfl)) | skip
   first | refine ZP (zZ (b := []) hqt rfl Tryz.underlying9 rfl rfl) ?_ | refine ZS ?_
   refine WE ?_
   refine za rfl ?_
   refine ZZ ?_
   refine WR ?_
   refine zf rfl (zc false (fun _ => hato) rfl .fn rfl (by decide) (by kernel_rfl) rfl (fun _ => C0 rfl) (by simp)) ?_
   rintro _ _ ⟨_, _, _, ⟨rfl, rfl⟩, hF, hH⟩
   (refine NST hF hH ?_; clear hF hH; rintro rfl rfl)
   refine WE ?_
   refine ZR ?_
   iterate 2 refine WX1 ?_
   refine ZA (rd_eqi0 rfl (by kernel_rfl) rfl) ?_
   refine WO ?_
   first | refine ZS ?_ | (refine G1 rfl ?_; refine zf rfl (zQ TabX (hX _ _) false (fun _ => zZ3 (svN s) (by omega) (by omega)) rfl .fn rfl (by decide) (by kernel_rfl) rfl (fun _ => C0 rfl) (by simp)) ?_; rintro _ _ ⟨_, _, _, ⟨rfl, rfl⟩, hF, hH⟩; (refine NST hF hH ?_; clear hF hH; rintro rfl rfl)) | skip
   refine WX1 ?_
   first | refine ZP (zO (a := _) (b := s) hqc rfl Tryz.underlying9 rfl rfl) ?_ | refine ZS ?_
   refine WE ?_
   exact zC1 [] _ rfl rfl rfl rfl rfl (by decide) (ZNK rfl) (fun _ => .nil) ⟨rfl, rfl⟩
end Go.Proofs.YtlhbfcfjepbhpaaGreatDoor
