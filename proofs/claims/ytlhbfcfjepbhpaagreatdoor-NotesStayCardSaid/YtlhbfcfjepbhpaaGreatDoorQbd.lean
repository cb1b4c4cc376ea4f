/- slices.Clone of notes; Write and WrittenNotes, by value. -/
import Derived.Test.YtlhbfcfjepbhpaaGreatDoorQba
set_option linter.unusedSimpArgs false
set_option linter.unusedVariables false
-- NEWM
namespace Go.Proofs.YtlhbfcfjepbhpaaGreatDoor
open Go Go.RowKit
set_option maxRecDepth 100000
def snB (a b : Nt) : Bool := decide (a.st = b.st) && decide (a.no = b.no)
theorem samenote_v (a b : Nt) : ACalls Tryz.prog 60 [noA a, noA b] [] fun u H => u = .c (B (snB a b)) ∧ H = [] := by
 obtain ⟨a0, a1, a2, a3, a4, a5, a6, a7, a8, a9⟩ := a
 obtain ⟨c0, c1, c2, c3, c4, c5, c6, c7, c8, c9⟩ := b
 show ACalls _ _ [.a [.c (T a0), .c (I a1), .c (I a2), .c (I a3), .c (T a4), .c (T a5), .c (T a6), .c (I a7), .c (T a8), .c (I a9)], .a [.c (T c0), .c (I c1), .c (I c2), .c (I c3), .c (T c4), .c (T c5), .c (T c6), .c (I c7), .c (T c8), .c (I c9)]] [] fun u H => u = .c (B (decide (a0 = c0) && decide (a1 = c1))) ∧ H = []
 obtain ⟨q, hq⟩ : ∃ q, decide (a0 = c0) = q := ⟨_, rfl⟩
 rw [hq]
 refine zg (N := 17) Tryz.func60 rfl rfl (by simp) fun E hE => ?_
 cases q
 ·repeat' (first
   | (with_reducible refine zI ?_) | (with_reducible refine zH ?_) | (with_reducible refine zK ?_) | (with_reducible refine zP ?_) | (with_reducible refine zM ?_) | (with_reducible refine zQ ?_) | (with_reducible refine zO rfl ?_) | (with_reducible refine zL ?_) | (with_reducible refine zu ?_) | (with_reducible refine zn ?_) | (with_reducible refine zJ ?_) | (with_reducible refine zz ?_)
   | refine zb rfl ?_ | refine za rfl ?_ | refine zw rfl (by assumption) ?_ | refine zt rfl (by assumption) ?_ | refine zq rfl (fun _ => ?_) (fun _ => ?_) | refine zp rfl (fun _ => ?_) (fun _ => ?_)
   | (refine zd (id := 1) ?_
      iterate 4 refine WX1 ?_
      refine ZA (zu1 (a := a0) (b := c0) hq rfl Tryz.underlying9 rfl rfl) ?_
      refine WE ?_)
   | (refine zd ?_; refine WE ?_))
  exact zf [] _ rfl rfl rfl (by decide) (ZNK rfl) (fun _ => .nil) ⟨rfl, rfl⟩
 ·by_cases h : a1 = c1
  ·repeat' (first
    | (with_reducible refine zI ?_) | (with_reducible refine zH ?_) | (with_reducible refine zK ?_) | (with_reducible refine zP ?_) | (with_reducible refine zM ?_) | (with_reducible refine zQ ?_) | (with_reducible refine zO rfl ?_) | (with_reducible refine zL ?_) | (with_reducible refine zu ?_) | (with_reducible refine zn ?_) | (with_reducible refine zJ ?_) | (with_reducible refine zz ?_)
    | refine zb rfl ?_ | refine za rfl ?_ | refine zw rfl (by assumption) ?_ | refine zt rfl (by assumption) ?_ | refine zq rfl (fun _ => ?_) (fun _ => ?_) | refine zp rfl (fun _ => ?_) (fun _ => ?_)
    | (refine zd (id := 1) ?_
       iterate 4 refine WX1 ?_
       refine ZA (zu1 (a := a0) (b := c0) hq rfl Tryz.underlying9 rfl rfl) ?_
       refine WE ?_)
    | (refine zd ?_; refine WE ?_))
   exact zf [] _ rfl rfl rfl (by decide) (ZNK rfl) (fun _ => .nil) ⟨by rw [decide_eq_true h]; rfl, rfl⟩
  ·repeat' (first
    | (with_reducible refine zI ?_) | (with_reducible refine zH ?_) | (with_reducible refine zK ?_) | (with_reducible refine zP ?_) | (with_reducible refine zM ?_) | (with_reducible refine zQ ?_) | (with_reducible refine zO rfl ?_) | (with_reducible refine zL ?_) | (with_reducible refine zu ?_) | (with_reducible refine zn ?_) | (with_reducible refine zJ ?_) | (with_reducible refine zz ?_)
    | refine zb rfl ?_ | refine za rfl ?_ | refine zw rfl (by assumption) ?_ | refine zt rfl (by assumption) ?_ | refine zq rfl (fun _ => ?_) (fun _ => ?_) | refine zp rfl (fun _ => ?_) (fun _ => ?_)
    | (refine zd (id := 1) ?_
       iterate 4 refine WX1 ?_
       refine ZA (zu1 (a := a0) (b := c0) hq rfl Tryz.underlying9 rfl rfl) ?_
       refine WE ?_)
    | (refine zd ?_; refine WE ?_))
   exact zf [] _ rfl rfl rfl (by decide) (ZNK rfl) (fun _ => .nil) ⟨by rw [decide_eq_false h]; rfl, rfl⟩
theorem nf1_v (a b : Nt) : ACalls Tryz.prog 59 [noA a, .p 0 0 0] [.box ((noR b).map .c)] fun u H => u = .c (B (snB a b)) ∧ H = [.box ((noR b).map .c)] := by
 obtain ⟨a0, a1, a2, a3, a4, a5, a6, a7, a8, a9⟩ := a
 obtain ⟨c0, c1, c2, c3, c4, c5, c6, c7, c8, c9⟩ := b
 show ACalls _ _ [.a [.c (T a0), .c (I a1), .c (I a2), .c (I a3), .c (T a4), .c (T a5), .c (T a6), .c (I a7), .c (T a8), .c (I a9)], .p 0 0 0] [.box [.c (T c0), .c (I c1), .c (I c2), .c (I c3), .c (T c4), .c (T c5), .c (T c6), .c (I c7), .c (T c8), .c (I c9)]] fun u H => u = .c (B (snB ⟨a0, a1, a2, a3, a4, a5, a6, a7, a8, a9⟩ ⟨c0, c1, c2, c3, c4, c5, c6, c7, c8, c9⟩)) ∧ H = [.box [.c (T c0), .c (I c1), .c (I c2), .c (I c3), .c (T c4), .c (T c5), .c (T c6), .c (I c7), .c (T c8), .c (I c9)]]
 refine zg (N := 7) Tryz.func59 rfl rfl (by simp) fun E hE => ?_
 refine WA ?_
 refine WR ?_
 refine zh rfl (zc false (fun _ => samenote_v ⟨a0, a1, a2, a3, a4, a5, a6, a7, a8, a9⟩ ⟨c0, c1, c2, c3, c4, c5, c6, c7, c8, c9⟩) rfl .fn rfl (by decide) (by kernel_rfl) rfl (fun _ => .cons (.aL (C0 rfl)) (.cons (.aL (C0 rfl)) .nil)) (by simp)) ?_
 rintro _ _ ⟨_, _, _, ⟨rfl, rfl⟩, hF, hH⟩
 (refine NST hF hH ?_; clear hF hH; rintro rfl rfl)
 refine WE ?_
 all_goals exact zf [some 0] [.box [.c (T c0), .c (I c1), .c (I c2), .c (I c3), .c (T c4), .c (T c5), .c (T c6), .c (I c7), .c (T c8), .c (I c9)]] rfl rfl rfl (by decide) (ZNK rfl) ZCH ⟨rfl, rfl⟩
def idxP (p : Nt → Bool) : List Nt → Nat → Int
 | [], _ => -1
 | x :: l, i => if p x = true then i else idxP p l (i + 1)
theorem idxP_any {p : Nt → Bool} : ∀ {l : List Nt} {i : Nat}, (0 ≤ idxP p l i ↔ l.any p = true)
 | [], i => by simp [idxP]
 | x :: l, i => by
  unfold idxP
  split
  ·rename_i h; simp [h]
  ·rename_i h; rw [idxP_any]; simp [h]
theorem indexN_v (fn : FuncId) (hfn : okFn Tryz.prog fn = true) (p : Nt → Bool) (b : Nt) (v : Value) (l : List Nt) (hl : l.length ≤ 1000000000) (hp : ∀ x ∈ l, ACalls Tryz.prog fn [noA x, .p 0 0 0] [.box ((noR b).map .c)] fun u H => u = .c (B (p x)) ∧ H = [.box ((noR b).map .c)]) :
    ACalls Tryz.prog 112 [.c (.r v (noRs l)), .f (.func fn) [.p 0 0 0]] [.box ((noR b).map .c)] fun u H => u = .c (I (idxP p l 0)) ∧ H = [.box ((noR b).map .c)] := by
 obtain ⟨c0, c1, c2, c3, c4, c5, c6, c7, c8, c9⟩ := b
 change ∀ x ∈ l, ACalls Tryz.prog fn [noA x, .p 0 0 0] [.box [.c (T c0), .c (I c1), .c (I c2), .c (I c3), .c (T c4), .c (T c5), .c (T c6), .c (I c7), .c (T c8), .c (I c9)]] fun u H => u = .c (B (p x)) ∧ H = [.box [.c (T c0), .c (I c1), .c (I c2), .c (I c3), .c (T c4), .c (T c5), .c (T c6), .c (I c7), .c (T c8), .c (I c9)]] at hp
 show ACalls _ _ _ [.box [.c (T c0), .c (I c1), .c (I c2), .c (I c3), .c (T c4), .c (T c5), .c (T c6), .c (I c7), .c (T c8), .c (I c9)]] fun u H => u = .c (I (idxP p l 0)) ∧ H = [.box [.c (T c0), .c (I c1), .c (I c2), .c (I c3), .c (T c4), .c (T c5), .c (T c6), .c (I c7), .c (T c8), .c (I c9)]]
 have e1 : (noRs l).length = l.length := by simp
 refine zg (N := 19) Tryz.func112 rfl rfl (by simp) fun E hE => ?_
 refine WA ?_
 refine WA ?_
 refine zC (fun m F H => ∃ (k : Nat), m + k = l.length ∧ idxP p (l.drop k) k = idxP p l 0 ∧ F = [(0, .c (.r v (noRs l))), (1, .f (.func fn) [.p 0 0 0]), (7, .c (I (noRs l).length)), (8, .c (I k))] ∧ H = [.box [.c (T c0), .c (I c1), .c (I c2), .c (I c3), .c (T c4), .c (T c5), .c (T c6), .c (I c7), .c (T c8), .c (I c9)]]) ?_ ?_
 ·refine zl [some 0] (fun _ => [(0, .c (.r v (noRs l))), (1, .f (.func fn) [.p 0 0 0]), (7, .c (I (noRs l).length)), (8, .c (I (0 : Nat)))]) (fun _ => [.box [.c (T c0), .c (I c1), .c (I c2), .c (I c3), .c (T c4), .c (T c5), .c (T c6), .c (I c7), .c (T c8), .c (I c9)]]) (by decide) (ZNL hE) ZCF ZCH (fun _ => ?_)
  exact ⟨l.length, 0, by omega, rfl, rfl, rfl⟩
 rintro m F H ⟨k, hk, hf, rfl, rfl⟩
 refine WA ?_
 refine zq rfl (fun hlt => ?_) (fun hge => ?_)
 ·obtain ⟨x, hx⟩ : ∃ n, l[k]? = some n := ⟨_, List.getElem?_eq_getElem (by omega)⟩
  have hrow0 := zE1 hx
  have hpx := hp x (List.mem_of_getElem? hx)
  rw [zX3 hx, idxP] at hf
  obtain ⟨q, hq⟩ : ∃ q, p x = q := ⟨_, rfl⟩
  rw [hq] at hf hpx
  obtain ⟨st, no, at_, kn, pr, jb, sp, n, of_, ot⟩ := x
  have hrow : (noRs l)[k]? = some [T st, I no, I at_, I kn, T pr, T jb, T sp, I n, T of_, I ot] := hrow0
  refine WA ?_
  refine WR ?_
  refine zh rfl (zM1 [0] (fun _ => [.box [.c (T c0), .c (I c1), .c (I c2), .c (I c3), .c (T c4), .c (T c5), .c (T c6), .c (I c7), .c (T c8), .c (I c9)]]) false (fun _ => hpx) rfl (.clo rfl) rfl (by decide) hfn rfl (fun _ => .cons (.aL (C0 rfl)) (.cons (.p rfl) .nil)) (by decide) ZCH (by simp)) ?_
  rintro F1 H1 ⟨_, _, _, _, ⟨rfl, rfl⟩, hF, hH⟩
  (refine NSU hF hH ?_; clear hF hH; rintro rfl rfl)
  refine WE ?_
  cases q with
  | true =>
   refine zb rfl ?_
   refine WA ?_
   exact zf [some 0] [.box [.c (T c0), .c (I c1), .c (I c2), .c (I c3), .c (T c4), .c (T c5), .c (T c6), .c (I c7), .c (T c8), .c (I c9)]] rfl rfl rfl (by decide) (ZNK rfl) ZCH ⟨by rw [← hf]; rfl, rfl⟩
  | false =>
   refine za rfl ?_
   refine ZZ ?_
   refine WA ?_
   refine zl [some 0] (fun _ => [(0, .c (.r v (noRs l))), (1, .f (.func fn) [.p 0 0 0]), (7, .c (I (noRs l).length)), (8, .c (I (k + 1 : Nat)))]) (fun _ => [.box [.c (T c0), .c (I c1), .c (I c2), .c (I c3), .c (T c4), .c (T c5), .c (T c6), .c (I c7), .c (T c8), .c (I c9)]]) (by decide) (ZNL hE) ZCF ZCH (fun _ => ?_)
   exact ⟨m - 1, by omega, k + 1, by omega, by rw [← hf]; rfl, rfl, rfl⟩
 refine ZZ ?_
 refine WA ?_
 exact zf [some 0] [.box [.c (T c0), .c (I c1), .c (I c2), .c (I c3), .c (T c4), .c (T c5), .c (T c6), .c (I c7), .c (T c8), .c (I c9)]] rfl rfl rfl (by decide) (ZNK rfl) ZCH ⟨by rw [← hf, List.drop_eq_nil_of_le (by omega)]; rfl, rfl⟩
end Go.Proofs.YtlhbfcfjepbhpaaGreatDoor
-- NEWM
namespace Go.Proofs.YtlhbfcfjepbhpaaGreatDoor
open Go Go.RowKit
set_option maxRecDepth 100000
theorem containsN_v (fn : FuncId) (hfn : okFn Tryz.prog fn = true) (p : Nt → Bool) (b : Nt) (v : Value) (l : List Nt) (hl : l.length ≤ 1000000000) (hp : ∀ x ∈ l, ACalls Tryz.prog fn [noA x, .p 0 0 0] [.box ((noR b).map .c)] fun u H => u = .c (B (p x)) ∧ H = [.box ((noR b).map .c)]) :
    ACalls Tryz.prog 58 [.c (.r v (noRs l)), .f (.func fn) [.p 0 0 0]] [.box ((noR b).map .c)] fun u H => u = .c (B (l.any p)) ∧ H = [.box ((noR b).map .c)] := by
 have hix := indexN_v fn hfn p b v l hl hp
 obtain ⟨c0, c1, c2, c3, c4, c5, c6, c7, c8, c9⟩ := b
 change ACalls _ _ _ [.box [.c (T c0), .c (I c1), .c (I c2), .c (I c3), .c (T c4), .c (T c5), .c (T c6), .c (I c7), .c (T c8), .c (I c9)]] fun u H => u = .c (I (idxP p l 0)) ∧ H = [.box [.c (T c0), .c (I c1), .c (I c2), .c (I c3), .c (T c4), .c (T c5), .c (T c6), .c (I c7), .c (T c8), .c (I c9)]] at hix
 show ACalls _ _ _ [.box [.c (T c0), .c (I c1), .c (I c2), .c (I c3), .c (T c4), .c (T c5), .c (T c6), .c (I c7), .c (T c8), .c (I c9)]] fun u H => u = .c (B (l.any p)) ∧ H = [.box [.c (T c0), .c (I c1), .c (I c2), .c (I c3), .c (T c4), .c (T c5), .c (T c6), .c (I c7), .c (T c8), .c (I c9)]]
 refine zg (N := 9) Tryz.func58 rfl rfl (by simp) fun E hE => ?_
 by_cases hs : 0 ≤ idxP p l 0
 ·repeat' (first
   | (with_reducible refine zI ?_) | (with_reducible refine zH ?_) | (with_reducible refine zK ?_) | (with_reducible refine zP ?_) | (with_reducible refine zM ?_) | (with_reducible refine zQ ?_) | (with_reducible refine zO rfl ?_) | (with_reducible refine zL ?_) | (with_reducible refine zu ?_) | (with_reducible refine zn ?_) | (with_reducible refine zJ ?_) | (with_reducible refine zz ?_)
   | refine zb rfl ?_ | refine za rfl ?_ | refine zw rfl (by assumption) ?_ | refine zt rfl (by assumption) ?_ | refine zq rfl (fun _ => ?_) (fun _ => ?_) | refine zp rfl (fun _ => ?_) (fun _ => ?_)
   | (refine zd (id := 1) ?_
      refine WO ?_
      refine zh rfl (zM1 [0] (fun _ => [.box [.c (T c0), .c (I c1), .c (I c2), .c (I c3), .c (T c4), .c (T c5), .c (T c6), .c (I c7), .c (T c8), .c (I c9)]]) false (fun _ => hix) rfl .fn rfl (by decide) (by kernel_rfl) rfl ZCH (by decide) ZCH (by simp)) ?_
      rintro F1 H1 ⟨_, _, _, _, ⟨rfl, rfl⟩, hF, hH⟩
      (refine NSU hF hH ?_; clear hF hH; rintro rfl rfl)
      refine WE ?_)
   | (refine zd ?_; refine WE ?_))
  exact zf [some 0] [.box [.c (T c0), .c (I c1), .c (I c2), .c (I c3), .c (T c4), .c (T c5), .c (T c6), .c (I c7), .c (T c8), .c (I c9)]] rfl rfl rfl (by decide) (ZNK rfl) ZCH ⟨congrArg (fun z => AV.c (B z)) (idxP_any.1 hs).symm, rfl⟩
 ·repeat' (first
   | (with_reducible refine zI ?_) | (with_reducible refine zH ?_) | (with_reducible refine zK ?_) | (with_reducible refine zP ?_) | (with_reducible refine zM ?_) | (with_reducible refine zQ ?_) | (with_reducible refine zO rfl ?_) | (with_reducible refine zL ?_) | (with_reducible refine zu ?_) | (with_reducible refine zn ?_) | (with_reducible refine zJ ?_) | (with_reducible refine zz ?_)
   | refine zb rfl ?_ | refine za rfl ?_ | refine zw rfl (by assumption) ?_ | refine zt rfl (by assumption) ?_ | refine zq rfl (fun _ => ?_) (fun _ => ?_) | refine zp rfl (fun _ => ?_) (fun _ => ?_)
   | (refine zd (id := 1) ?_
      refine WO ?_
      refine zh rfl (zM1 [0] (fun _ => [.box [.c (T c0), .c (I c1), .c (I c2), .c (I c3), .c (T c4), .c (T c5), .c (T c6), .c (I c7), .c (T c8), .c (I c9)]]) false (fun _ => hix) rfl .fn rfl (by decide) (by kernel_rfl) rfl ZCH (by decide) ZCH (by simp)) ?_
      rintro F1 H1 ⟨_, _, _, _, ⟨rfl, rfl⟩, hF, hH⟩
      (refine NSU hF hH ?_; clear hF hH; rintro rfl rfl)
      refine WE ?_)
   | (refine zd ?_; refine WE ?_))
  exact zf [some 0] [.box [.c (T c0), .c (I c1), .c (I c2), .c (I c3), .c (T c4), .c (T c5), .c (T c6), .c (I c7), .c (T c8), .c (I c9)]] rfl rfl rfl (by decide) (ZNK rfl) ZCH ⟨congrArg (fun z => AV.c (B z)) (Bool.eq_false_iff.2 fun h => hs (idxP_any.2 h)).symm, rfl⟩
theorem any_same {l : List Nt} {x : Nt} : l.any (fun o => snB o x) = (l.map ky).contains (ky x) := by
 rw [Bool.eq_iff_iff, List.any_eq_true, List.contains_iff_mem, List.mem_map]
 constructor
 ·rintro ⟨o, ho, h⟩
  refine ⟨o, ho, ?_⟩
  simp [snB] at h
  simp [h]
 ·rintro ⟨o, ho, h⟩
  refine ⟨o, ho, ?_⟩
  simp at h
  simp [snB, h]
set_option maxHeartbeats 2000000 in
theorem notesfault_v (v : Value) (l : List Nt) (hl : l.length ≤ 1000000) (hs : ∀ x ∈ l, NtS x) : ACalls Tryz.prog 11 [.c (.r v (noRs l))] [] fun u H => u = .c (I (chkN l)) ∧ H = [] := by
 have e1 : (noRs l).length = l.length := by simp
 refine zg (N := 49) Tryz.func11 rfl rfl (by simp) fun E hE => ?_
 refine WA ?_
 refine WA ?_
 refine zq rfl (fun h0 => ?_) (fun h0 => ?_)
 ·refine WA ?_
  exact zf [] _ rfl rfl rfl (by decide) (ZNK rfl) (fun _ => .nil) ⟨by rw [chkN, if_pos (by omega)], rfl⟩
 have e2 : chkN l = if chkA none l ≠ 0 then chkA none l else if (l.map ky).Nodup then 0 else 6 := by rw [chkN, if_neg (by omega)]
 refine ZZ ?_
 refine WA ?_
 refine zC (fun m F H => ∃ (k : Nat), m + k = l.length ∧ chkA (prv l k) (l.drop k) = chkA none l ∧ F = [(0, .c (.r v (noRs l))), (11, .c (.r v (noRs l))), (12, .c (I (noRs l).length)), (13, .c (I k))] ∧ H = []) ?_ ?_
 ·refine zl [] (fun _ => [(0, .c (.r v (noRs l))), (11, .c (.r v (noRs l))), (12, .c (I (noRs l).length)), (13, .c (I (0 : Nat)))]) (fun _ => []) (by decide) (ZNL hE) ZCF (fun _ => .nil) (fun _ => ?_)
  exact ⟨l.length, 0, by omega, rfl, rfl, rfl⟩
 ·rintro m F H ⟨k, hk, hf, rfl, rfl⟩
  refine WA ?_
  refine zq rfl (fun hlt => ?_) (fun hge => ?_)
  ·obtain ⟨x, hx⟩ : ∃ n, l[k]? = some n := ⟨_, List.getElem?_eq_getElem (by omega)⟩
   have hrow0 := zE1 hx
   have hxs := hs x (List.mem_of_getElem? hx)
   rw [zX3 hx, zM3] at hf
   have hpn := prv_next hx
   obtain ⟨st, no, at_, kn, pr, jb, sp, n, of_, ot⟩ := x
   have hrow : (noRs l)[k]? = some [T st, I no, I at_, I kn, T pr, T jb, T sp, I n, T of_, I ot] := hrow0
   refine WA ?_
   refine WR ?_
   refine zh rfl (zc false (fun _ => rnf_v ⟨st, no, at_, kn, pr, jb, sp, n, of_, ot⟩ hxs) rfl .fn rfl (by decide) (by kernel_rfl) rfl (fun _ => .cons (.aL (C0 rfl)) .nil) (by simp)) ?_
   rintro _ _ ⟨_, _, _, ⟨rfl, rfl⟩, hF, hH⟩
   (refine NST hF hH ?_; clear hF hH; rintro rfl rfl)
   refine WE ?_
   generalize ntF ⟨st, no, at_, kn, pr, jb, sp, n, of_, ot⟩ = e at hf ⊢
   refine WA ?_
   refine zq rfl (fun h1 => ?_) (fun h1 => ?_)
   ·rw [if_pos h1] at hf
    refine WA ?_
    exact zf [] _ rfl rfl rfl (by decide) (ZNK rfl) (fun _ => .nil) ⟨by rw [e2, ← hf, if_pos h1], rfl⟩
   rw [if_neg h1] at hf
   refine ZZ ?_
   obtain ⟨q, hq⟩ : ∃ q, badO (prv l k) ⟨st, no, at_, kn, pr, jb, sp, n, of_, ot⟩ = q := ⟨_, rfl⟩
   rw [hq] at hf
   refine zM2 (fun F H => ∃ p, F = [(0, .c (.r v (noRs l))), (11, .c (.r v (noRs l))), (12, .c (I (noRs l).length)), (13, .c (I k)), (34, .c (B q))] ∧ H = [.box p]) ?_ ?_ zn4
   ·by_cases hk0 : k = 0
    ·subst hk0
     have hq' : q = false := hq.symm
     subst hq'
     refine ZZ ?_
     refine ze [(0, none), (1, none), (2, none), (3, none), (4, none), (5, none), (6, none), (7, none), (8, none), (9, some []), (10, none), (11, none)] zr (by kernel_rfl) ?_
     refine WP ?_
     first | refine zN2 rfl rfl rfl (by decide) ⟨zk, ?_⟩ | (refine zO2 rfl (zc false (fun _ => norder_v ⟨st, no, at_, kn, pr, jb, sp, n, of_, ot⟩ ⟨st, no, at_, kn, pr, jb, sp, n, of_, ot⟩) rfl .fn rfl (by decide) (by kernel_rfl) rfl (fun _ => .cons (.aL (C0 rfl)) (.cons (.aL (C0 rfl)) .nil)) (by simp)) ?_; rintro _ _ ⟨_, _, _, ⟨rfl, rfl⟩, hF, hH⟩; (refine NST hF hH ?_; clear hF hH; rintro rfl rfl); refine ⟨zk, ?_⟩)
     refine WQ ?_
     all_goals refine zl [some 0] (fun _ => [(0, .c (.r v (noRs l))), (11, .c (.r v (noRs l))), (12, .c (I (noRs l).length)), (13, .c (I (0 : Nat))), (34, .c (B false))]) (fun _ => [.box [.c (T st), .c (I no), .c (I at_), .c (I kn), .c (T pr), .c (T jb), .c (T sp), .c (I n), .c (T of_), .c (I ot)]]) (by decide) (ZNL hE) ZCF ZCH (fun _ => ?_)
     all_goals exact ⟨_, rfl, rfl⟩
    ·obtain ⟨y, hy⟩ : ∃ n, l[k - 1]? = some n := ⟨_, List.getElem?_eq_getElem (by omega)⟩
     have hkp : (0 : Int) < (k : Int) := by omega
     have hpy : prv l k = some y := by unfold prv; rw [if_neg hk0]; exact hy
     rw [hpy] at hq
     have hq' : decide (0 ≤ cmpNt y ⟨st, no, at_, kn, pr, jb, sp, n, of_, ot⟩) = q := hq
     have hrowy0 := zE1 hy
     have hk1 : ((k : Int) - 1) = ((k - 1 : Nat) : Int) := by omega
     obtain ⟨y0, y1, y2, y3, y4, y5, y6, y7, y8, y9⟩ := y
     have hrowy : (noRs l)[k - 1]? = some [T y0, I y1, I y2, I y3, T y4, T y5, T y6, I y7, T y8, I y9] := hrowy0
     refine ZZ ?_
     refine ze [(0, none), (1, none), (2, none), (3, none), (4, none), (5, none), (6, none), (7, none), (8, none), (9, some []), (10, none), (11, none)] zr (by kernel_rfl) ?_
     refine WP ?_
     first | refine zN2 rfl rfl rfl (by decide) ⟨zk, ?_⟩ | (refine zO2 rfl (zc false (fun _ => norder_v ⟨y0, y1, y2, y3, y4, y5, y6, y7, y8, y9⟩ ⟨st, no, at_, kn, pr, jb, sp, n, of_, ot⟩) rfl .fn rfl (by decide) (by kernel_rfl) rfl (fun _ => .cons (.aL (C0 rfl)) (.cons (.aL (C0 rfl)) .nil)) (by simp)) ?_; rintro _ _ ⟨_, _, _, ⟨rfl, rfl⟩, hF, hH⟩; (refine NST hF hH ?_; clear hF hH; rintro rfl rfl); refine ⟨zk, ?_⟩)
     refine WQ ?_
     all_goals refine zl [some 0] (fun _ => [(0, .c (.r v (noRs l))), (11, .c (.r v (noRs l))), (12, .c (I (noRs l).length)), (13, .c (I k)), (34, .c (B q))]) (fun _ => [.box [.c (T st), .c (I no), .c (I at_), .c (I kn), .c (T pr), .c (T jb), .c (T sp), .c (I n), .c (T of_), .c (I ot)]]) (by decide) (ZNL hE) ZCF ZCH (fun _ => ?_)
     all_goals exact ⟨_, rfl, rfl⟩
   rintro F H ⟨p, rfl, rfl⟩
   cases q with
   | true =>
    refine zb rfl ?_
    refine WA ?_
    exact zf [] _ rfl rfl rfl (by decide) (ZNK rfl) (fun _ => .nil) ⟨by rw [e2, ← hf]; rfl, rfl⟩
   | false =>
    refine za rfl ?_
    refine ZZ ?_
    refine WA ?_
    refine zl [] (fun _ => [(0, .c (.r v (noRs l))), (11, .c (.r v (noRs l))), (12, .c (I (noRs l).length)), (13, .c (I (k + 1 : Nat)))]) (fun _ => []) (by decide) (ZNL hE) ZCF (fun _ => .nil) (fun _ => ?_)
    exact ⟨m - 1, by omega, k + 1, by omega, by rw [hpn, ← hf]; rfl, rfl, rfl⟩
  have h0' : chkA none l = 0 := by rw [← hf, List.drop_eq_nil_of_le (by omega), chkA_nil]
  rw [if_neg (by rw [h0']; simp)] at e2
  refine ZZ ?_
  refine WA ?_
  refine zC (fun m F H => ∃ (k : Nat), m + k = l.length ∧ ((l.take k).map ky).Nodup ∧ F = [(0, .c (.r v (noRs l))), (36, .c (.r v (noRs l))), (37, .c (I (noRs l).length)), (38, .c (I k))] ∧ H = []) ?_ ?_
  ·refine zl [] (fun _ => [(0, .c (.r v (noRs l))), (36, .c (.r v (noRs l))), (37, .c (I (noRs l).length)), (38, .c (I (0 : Nat)))]) (fun _ => []) (by decide) (ZNL hE) ZCF (fun _ => .nil) (fun _ => ?_)
   exact ⟨l.length, 0, by omega, by simp, rfl, rfl⟩
  ·rintro m F H ⟨k, hk, hd, rfl, rfl⟩
   refine WA ?_
   refine zq rfl (fun hlt => ?_) (fun hge => ?_)
   ·obtain ⟨x, hx⟩ : ∃ n, l[k]? = some n := ⟨_, List.getElem?_eq_getElem (by omega)⟩
    have hrow0 := zE1 hx
    have hmt := map_take_at hx
    have hcf0 := fun v' => containsN_v 59 (by kernel_rfl) (fun o => snB o x) x v' (l.take k) (by rw [List.length_take]; omega) (fun o _ => nf1_v o x)
    rw [any_same] at hcf0
    obtain ⟨q, hq⟩ : ∃ q, ((l.take k).map ky).contains (ky x) = q := ⟨_, rfl⟩
    rw [hq] at hcf0
    obtain ⟨st, no, at_, kn, pr, jb, sp, n, of_, ot⟩ := x
    have hrow : (noRs l)[k]? = some [T st, I no, I at_, I kn, T pr, T jb, T sp, I n, T of_, I ot] := hrow0
    have hcf : ∀ v', ACalls Tryz.prog 58 [.c (.r v' (noRs (l.take k))), .f (.func 59) [.p 0 0 0]] [.box [.c (T st), .c (I no), .c (I at_), .c (I kn), .c (T pr), .c (T jb), .c (T sp), .c (I n), .c (T of_), .c (I ot)]] fun u H => u = .c (B q) ∧ H = [.box [.c (T st), .c (I no), .c (I at_), .c (I kn), .c (T pr), .c (T jb), .c (T sp), .c (I n), .c (T of_), .c (I ot)]] := hcf0
    refine WA ?_
    refine ZR ?_
    iterate 2 refine WX1 ?_
    refine al_rd rfl rfl (by decide) (rd_slicer (e := 39) (sz := 10) (l := 0) (h := k) rfl (by kernel_rfl) rfl (by intro row hr; obtain ⟨s, -, rfl⟩ := List.mem_map.1 hr; rfl) (.inl ⟨rfl, rfl⟩) (.inr ⟨_, _, _, rfl, rfl, rfl⟩) (by omega) (by omega)) ?_
    simp only [List.drop_zero]
    rw [← List.map_take]
    refine WO ?_
    refine zh rfl (zM1 [0] (fun _ => [.box [.c (T st), .c (I no), .c (I at_), .c (I kn), .c (T pr), .c (T jb), .c (T sp), .c (I n), .c (T of_), .c (I ot)]]) false (fun _ => hcf _) rfl .fn rfl (by decide) (by kernel_rfl) rfl ZCH (by decide) ZCH (by simp)) ?_
    rintro F1 H1 ⟨_, _, _, _, ⟨rfl, rfl⟩, hF, hH⟩
    (refine NSU hF hH ?_; clear hF hH; rintro rfl rfl)
    refine WE ?_
    cases q with
    | true =>
     refine zb rfl ?_
     refine WA ?_
     refine zf [] _ rfl rfl rfl (by decide) (ZNK rfl) (fun _ => .nil) ⟨?_, rfl⟩
     rw [e2, if_neg]
     intro hn
     rw [← List.take_append_drop (k + 1) l, List.map_append, hmt] at hn
     have h3 := (List.nodup_append.1 (List.nodup_append.1 hn).1).2.2
     have h4 := List.contains_iff_mem.1 hq
     exact h3 _ h4 _ (List.mem_singleton.2 rfl) rfl
    | false =>
     refine za rfl ?_
     refine ZZ ?_
     refine WA ?_
     refine zl [] (fun _ => [(0, .c (.r v (noRs l))), (36, .c (.r v (noRs l))), (37, .c (I (noRs l).length)), (38, .c (I (k + 1 : Nat)))]) (fun _ => []) (by decide) (ZNL hE) ZCF (fun _ => .nil) (fun _ => ?_)
     refine ⟨m - 1, by omega, k + 1, by omega, ?_, rfl, rfl⟩
     rw [hmt]
     refine List.nodup_append.2 ⟨hd, by simp, fun a ha b hb e => ?_⟩
     rw [List.mem_singleton] at hb
     subst hb; subst e
     rw [List.contains_iff_mem.2 ha] at hq; cases hq
   refine ZZ ?_
   refine WA ?_
   refine zf [] _ rfl rfl rfl (by decide) (ZNK rfl) (fun _ => .nil) ⟨?_, rfl⟩
   rw [List.take_of_length_le (by omega)] at hd
   rw [e2, if_pos hd]
end Go.Proofs.YtlhbfcfjepbhpaaGreatDoor
-- NEWM
namespace Go.Proofs.YtlhbfcfjepbhpaaGreatDoor
open Go Go.RowKit
set_option maxRecDepth 100000
def OkR (sz : Nat) (R : List (List CV)) : Prop := ∀ row ∈ R, row.length = sz ∧ ∀ u ∈ row, u.one = true
theorem okR_map {α : Type} {f : α → List CV} {sz : Nat} (h : ∀ x, (f x).length = sz ∧ ∀ u ∈ f x, u.one = true) (l : List α) : OkR sz (l.map f) := fun row hr => by
 obtain ⟨x, -, rfl⟩ := List.mem_map.1 hr
 exact h x
theorem okNo (l : List Nt) : OkR 10 (noRs l) := okR_map (f := noR) (sz := 10) (fun x => ⟨rfl, fun u hu => by
 simp only [noR, List.mem_cons, List.not_mem_nil, or_false] at hu
 rcases hu with rfl | rfl | rfl | rfl | rfl | rfl | rfl | rfl | rfl | rfl <;> rfl⟩) l
theorem cloneN_a (R : List (List CV)) (v : Value) (hR : OkR 10 R) (hl : R.length ≤ 1000000) : ACalls Tryz.prog 43 [.c (.r v R)] [] fun u H => ∃ c : Nat, R.length ≤ c ∧ u = .o 0 0 R.length c ∧ H = [.arr 39 10 c R] := by
 refine zg (N := 8) Tryz.func43 rfl rfl (by simp) fun E hE => ?_
 refine aw_rnil (t := 0) rfl fun hnil => ?_
 refine WA ?_
 refine WA ?_
 refine zp rfl (fun h => ?_) (fun h => ?_)
 ·obtain rfl : R = [] := hnil h
  refine WA ?_
  exact zZ (us := [.c (.r (.slice none 0 0) [])]) [none] (fun _ => .o 0 0 0 0) (fun _ => [.arr 39 10 0 []]) (.tmp rfl .nil) (by decide) (ZNK rfl) (fun _ => .nil rfl) ZCH (fun _ => ⟨0, by simp, rfl, rfl⟩)
 ·refine ZZ ?_
  refine WR ?_
  refine zh rfl (Zapp (hE := KA (t := 26) rfl) (hsrc := .ro (fun r h => (hR r h).1) (fun r h => (hR r h).2))) ?_
  rintro _ _ ⟨_, cc, hcc, rfl, rfl⟩
  refine WE ?_
  exact zm4 [some 0] (fun _ => [.arr 39 10 cc R]) rfl rfl rfl (by simp) rfl (by decide) (ZNK rfl) ZCH (fun _ => ⟨cc, by omega, rfl, rfl⟩)
def mxN (s : List UInt8) : List Nt → Int → Int
 | [], a => a
 | y :: l, a => mxN s l (if y.st = s then max a y.no else a)
theorem mxN_snoc (s : List UInt8) (y : Nt) : ∀ (l : List Nt) (a : Int), mxN s (l ++ [y]) a = if y.st = s then max (mxN s l a) y.no else mxN s l a
 | [], a => rfl
 | z :: l, a => by rw [List.cons_append, mxN, mxN_snoc s y l, mxN]
theorem mxN_le (s : List UInt8) (q : Int) : ∀ (l : List Nt) (a : Int), a ≤ q → (∀ y ∈ l, y.no ≤ q) → a ≤ mxN s l a ∧ mxN s l a ≤ q
 | [], a, h, _ => ⟨Int.le_refl _, h⟩
 | y :: l, a, h, hl => by
  rw [mxN]
  have h1 := hl y List.mem_cons_self
  have := mxN_le s q l (if y.st = s then max a y.no else a) (by split <;> omega) (fun z hz => hl z (List.mem_cons_of_mem _ hz))
  refine ⟨?_, this.2⟩
  have h2 := this.1
  split at h2 <;> (rename_i e; simp only [e, if_true, if_false] at this ⊢; omega)
def wrX (l : List Nt) (x : Nt) : Nt := { x with no := mxN x.st l x.no + 1 }
def wrE (l : List Nt) (x : Nt) : Int := if x.no ≠ 0 then 3 else if ntF (wrX l x) ≠ 0 then ntF (wrX l x) else if badO (prv l l.length) (wrX l x) = true then 7 else if 2000 ≤ l.length then 2 else 0
end Go.Proofs.YtlhbfcfjepbhpaaGreatDoor
