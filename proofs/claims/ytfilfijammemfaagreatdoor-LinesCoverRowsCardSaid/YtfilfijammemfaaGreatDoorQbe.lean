/- The reference's fault of cells, by value. -/
import Derived.Test.YtfilfijammemfaaGreatDoorQbd
set_option linter.unusedSimpArgs false
set_option linter.unusedVariables false
-- NEWM
namespace Go.Proofs.YtfilfijammemfaaGreatDoor
open Go Go.RowKit
set_option maxRecDepth 100000
def ascL (l : List UInt8) : List AV := (List.range 256).map fun i => .c (B (l.any fun c => c.toNat == i))
theorem zk1 (l : List UInt8) : (ascL l).length = 256 := by simp [ascL]
theorem ascL_nil : (List.replicate 256 (Value.bool false)).map (fun v => AV.c (cvOf v)) = ascL [] := by
 rw [List.map_replicate, ascL]
 refine List.ext_getElem (by rw [List.length_replicate, List.length_map, List.length_range]) fun i h1 h2 => ?_
 rw [List.getElem_replicate, List.getElem_map]
 rfl
theorem ascL_at (l : List UInt8) (b : UInt8) : (ascL l).drop (0 + b.toNat * 1) = .c (B (l.contains b)) :: (ascL l).drop (b.toNat + 1) := by
 have hb := b.toNat_lt
 rw [Nat.zero_add, Nat.mul_one, List.drop_eq_getElem_cons (by rw [zk1]; omega)]
 congr 1
 simp only [ascL, List.getElem_map, List.getElem_range]
 congr 2
 rw [Bool.eq_iff_iff, List.any_eq_true, List.contains_iff_mem]
 constructor
 ·rintro ⟨c, h1, h2⟩
  have h2 : c.toNat = b.toNat := by simpa using h2
  rwa [← UInt8.toNat_inj.1 h2]
 ·intro h; exact ⟨b, h, by simp⟩
theorem ascL_put (l : List UInt8) (b : UInt8) : putL (ascL l) (0 + b.toNat * 1) [.c (B true)] = ascL (l ++ [b]) := by
 have hb := b.toNat_lt
 rw [Nat.zero_add, Nat.mul_one]
 refine List.ext_getElem? fun i => ?_
 rw [putL_get (by rw [zk1]; simp; omega)]
 have hat : ∀ (m : List UInt8) (i : Nat), (ascL m)[i]? = if i < 256 then some (.c (B (m.any fun c => c.toNat == i))) else none := fun m i => by
  unfold ascL
  rw [List.getElem?_map]
  split
  ·rename_i h; rw [List.getElem?_range h]; rfl
  ·rename_i h; rw [List.getElem?_eq_none (by simpa using h)]; rfl
 rw [hat, hat]
 simp only [List.length_singleton]
 by_cases hi : b.toNat ≤ i ∧ i < b.toNat + 1
 ·obtain rfl : i = b.toNat := by omega
  rw [if_pos ⟨by omega, by omega⟩, if_pos (by omega), Nat.sub_self]
  simp
 ·rw [if_neg hi]
  have : (b.toNat == i) = false := by simp; omega
  simp [List.any_append, this]
theorem zT (l : List UInt8) : AV.cloL (ascL l) = true := by
 have : ∀ m : List CV, AV.cloL (m.map .c) = true := fun m => by
  induction m with
  | nil => rfl
  | cons x m ih => rw [List.map_cons, AV.cloL, AV.clo]; exact ih
 have e : ascL l = ((List.range 256).map fun i => B (l.any fun c => c.toNat == i)).map .c := by rw [ascL, List.map_map]; rfl
 rw [e]; exact this _
theorem ascL_one (l : List UInt8) : (ascL l).all AV.one = true := by
 rw [List.all_eq_true]
 intro x hx
 obtain ⟨i, _, rfl⟩ := List.mem_map.1 hx
 rfl
theorem ascL_all (m l : List UInt8) : putL (ascL m) 0 (ascL l) = ascL l := by
 unfold putL
 rw [List.take_zero, List.nil_append, Nat.zero_add, List.drop_eq_nil_of_le (by rw [zk1, zk1]; exact Nat.le_refl _), List.append_nil]
theorem aschas_v (l : List UInt8) (b : UInt8) : ACalls Tryz.prog 168 [.p 0 0 0, .c (.s (.int .u8 b.toNat))] [.box (ascL l)] fun u H => u = .c (B (l.contains b)) ∧ H = [.box (ascL l)] := by
 refine ze (N := 10) Tryz.func168 rfl rfl (by simp) fun E hE => ?_
 refine WA ?_
 refine ZR ?_
 iterate 3 refine WX1 ?_
 refine ZA (rd_ixa (i := b.toNat) (n := 256) (e := 4) (sz := 1) rfl (by kernel_rfl) rfl rfl rfl (by have := b.toNat_lt; omega)) ?_
 refine ZA (rd_loadn1 rfl (by kernel_rfl) rfl (Cells.box rfl) (ascL_at l b)) ?_
 refine WE ?_
 exact zi [some 0] [.box (ascL l)] rfl rfl rfl (by decide) (ZNK rfl) (fun _ => .box rfl (C0 (zT l)) .nil) ⟨rfl, rfl⟩
theorem makeascii_v (l : List UInt8) (h8 : ∀ b ∈ l, b < 128) (hl : l.length ≤ 1000000) : ACalls Tryz.prog 131 [.c (T l)] [] fun u H => u = .t [.a (ascL l), .c (B true)] ∧ H = [] := by
 refine ze (N := 21) Tryz.func131 rfl rfl (by simp) fun E hE => ?_
 refine ZR ?_
 refine zf rfl (ef_alloc (z := .agg (List.replicate 256 (Value.bool false)).toArray) (vs := List.replicate 256 (.bool false)) rfl rfl (by decide) (by kernel_rfl) rfl (by decide +kernel)) ?_
 rintro _ _ ⟨rfl, rfl⟩
 rw [ascL_nil]
 refine WE ?_
 refine WA ?_
 refine zk (fun m F H => ∃ k : Nat, m + k = l.length ∧ F = [(0, .c (T l)), (2, .p 0 0 0), (4, .c (I k))] ∧ H = [.box (ascL (l.take k))]) ?_ ?_
 ·refine zh [some 0] (fun _ => [(0, .c (T l)), (2, .p 0 0 0), (4, .c (I (0 : Nat)))]) (fun _ => [.box (ascL [])]) (by decide) (ZNL hE) ZCF (fun _ => .box rfl (C0 (zT _)) .nil) (fun _ => ?_)
  exact ⟨l.length, 0, by omega, rfl, rfl⟩
 rintro m F H ⟨k, hk, rfl, rfl⟩
 have hsz := zL1 l
 by_cases hlt : k < l.length
 ·obtain ⟨b, hb⟩ : ∃ b, l[k]? = some b := ⟨_, List.getElem?_eq_getElem hlt⟩
  have hb8 : ¬ (128 : Int) ≤ (b.toNat : Int) := by have := h8 b (List.mem_of_getElem? hb); have : b.toNat < 128 := this; omega
  have htk : l.take (k + 1) = l.take k ++ [b] := by rw [List.take_add_one, hb]; rfl
  refine WA ?_
  refine zb rfl ?_
  refine ZR ?_
  iterate 2 refine WX1 ?_
  refine ZA (rd_idxs (i := k) rfl Tryz.underlying9 rfl rfl rfl hb) ?_
  refine WE ?_
  refine WA ?_
  refine zd rfl ?_
  refine ZZ ?_
  refine ZR ?_
  refine WX1 ?_
  refine ZA (rd_ixa (i := b.toNat) (n := 256) (e := 4) (sz := 1) rfl (by kernel_rfl) rfl rfl rfl (by have := b.toNat_lt; omega)) ?_
  refine zf rfl (ef_storen (k := 1) rfl rfl rfl rfl rfl (by kernel_rfl) rfl (by rw [zk1]; have := b.toNat_lt; omega) rfl (ascL_put _ b) rfl) ?_
  rintro _ _ ⟨rfl, rfl⟩
  refine WE ?_
  refine WA ?_
  refine zh [some 0] (fun _ => [(0, .c (T l)), (2, .p 0 0 0), (4, .c (I (k + 1 : Nat)))]) (fun _ => [.box (ascL (l.take k ++ [b]))]) (by decide) (ZNL hE) ZCF (fun _ => .box rfl (C0 (zT _)) .nil) (fun _ => ?_)
  exact ⟨m - 1, by omega, k + 1, by omega, rfl, by rw [htk]⟩
 obtain rfl : k = l.length := by omega
 rw [List.take_length]
 refine WA ?_
 refine zd rfl ?_
 refine ZZ ?_
 refine ZR ?_
 refine ZA (rd_loadn (k := 256) (cs' := ascL l) rfl (by kernel_rfl) rfl (Cells.box rfl) (by rw [List.drop_zero, List.take_of_length_le (by rw [zk1]; exact Nat.le_refl _)]) (by rw [List.drop_zero, zk1]; exact Nat.le_refl _)) ?_
 refine zf rfl (ef_storen (k := 256) (l' := ascL l) rfl rfl rfl rfl rfl (by kernel_rfl) (zk1 l) (by rw [zk1]; exact Nat.le_refl _) (ascL_one l) (ascL_all _ l) rfl) ?_
 rintro _ _ ⟨rfl, rfl⟩
 refine WE ?_
 exact zq (us := [.a (ascL l), .c (B true)]) [] (fun _ => .t [.a (ascL l), .c (B true)]) (fun _ => []) (.cella (n := 256) rfl (by kernel_rfl) (Cells.box rfl) (by rw [List.drop_zero, zk1]; exact Nat.le_refl _) (by rw [List.drop_zero, List.take_of_length_le (by rw [zk1]; exact Nat.le_refl _)]) (.tmp rfl .nil)) (by decide) (fun i hi => absurd hi (Nat.not_lt_zero i)) (fun _ => .tL (.cons (.aL (C0 (zT l))) (.cons (.c rfl) .nil))) (fun _ => .nil) (fun _ => ⟨rfl, rfl⟩)
end Go.Proofs.YtfilfijammemfaaGreatDoor
-- NEWM
namespace Go.Proofs.YtfilfijammemfaaGreatDoor
open Go Go.RowKit
set_option maxRecDepth 100000
def trR (p : UInt8 → Bool) (s : List UInt8) : List UInt8 := (s.reverse.dropWhile p).reverse
abbrev trB (cut s : List UInt8) : List UInt8 := (trR (fun b => cut.contains b) s).dropWhile fun b => cut.contains b
theorem trR_snoc (p : UInt8 → Bool) (s : List UInt8) (b : UInt8) : trR p (s ++ [b]) = if p b = true then trR p s else s ++ [b] := by
 unfold trR
 rw [List.reverse_append, List.reverse_singleton, List.singleton_append, List.dropWhile_cons]
 split
 ·rfl
 ·rw [List.reverse_cons, List.reverse_reverse]
theorem trR_len (p : UInt8 → Bool) (s : List UInt8) : (trR p s).length ≤ s.length := by
 unfold trR
 rw [List.length_reverse]
 have := (List.dropWhile_suffix (l := s.reverse) p).length_le
 rwa [List.length_reverse] at this
theorem dropW_nil (p : UInt8 → Bool) : ∀ s : List UInt8, s.dropWhile p = [] ↔ ∀ b ∈ s, p b = true
 | [] => by simp
 | a :: s => by
  rw [List.dropWhile_cons]
  split
  ·rename_i h; rw [dropW_nil p s]; simp [h]
  ·rename_i h; simp [h]
theorem trB_nil (cut s : List UInt8) : trB cut s = [] ↔ ∀ b ∈ s, cut.contains b = true := by
 have e0 : (∀ b ∈ s, cut.contains b = true) ↔ ∀ b ∈ s, (fun b => cut.contains b) b = true := Iff.rfl
 rw [e0]
 unfold trB
 generalize (fun b => cut.contains b) = p
 rw [dropW_nil]
 constructor
 ·intro h
  have hn : trR p s = [] := by
   rcases List.eq_nil_or_concat (trR p s) with e | ⟨l, b, e⟩
   ·exact e
   ·exfalso
    rw [List.concat_eq_append] at e
    have hb := h b (by rw [e]; simp)
    unfold trR at e
    have e2 : s.reverse.dropWhile p = b :: l.reverse := by
     have := congrArg List.reverse e
     simpa using this
    have := List.head_dropWhile_not p (l := s.reverse) (by rw [e2]; simp)
    simp only [e2, List.head_cons] at this
    rw [this] at hb; cases hb
  unfold trR at hn
  have := (dropW_nil p s.reverse).1 (List.reverse_eq_nil_iff.1 hn)
  intro b hb
  exact this b (by simpa using hb)
 ·intro h b hb
  unfold trR at hb
  exact h b (by
   have := (List.dropWhile_suffix (l := s.reverse) p).subset (List.mem_reverse.1 hb)
   simpa using this)
theorem rd_eqlsq {P : Program} {N : Nat} {E : Env} {F : Fm} {H : List OB} {o : Oper} {t yt : TypeId} {x y : Operand} {a b : List UInt8} {q : Bool} (h : decide (a = b) = q) (ho : o.op = .binOp .eql t x y yt) (ht : P.underlying t = some .string) (hx : ev F x = some (.c (T a))) (hy : ev F y = some (.c (T b))) : Rd P N E o F H (.c (B q)) := h ▸ rd_eqls ho ht hx hy
theorem trimr_v (cut s : List UInt8) (hl : s.length ≤ 1000000000) : ACalls Tryz.prog 133 [.c (T s), .p 0 0 0] [.box (ascL cut)] fun u H => u = .c (T (trR (fun b => cut.contains b) s)) ∧ H = [.box (ascL cut)] := by
 refine ze (N := 22) Tryz.func133 rfl rfl (by simp) fun E hE => ?_
 refine WA ?_
 refine zk (fun m F H => ∃ r : List UInt8, r.length = m ∧ r.length ≤ 1000000000 ∧ trR (fun b => cut.contains b) r = trR (fun b => cut.contains b) s ∧ F = [(0, .c (T r)), (1, .p 0 0 0)] ∧ H = [.box (ascL cut)]) ?_ ?_
 ·refine zh [some 0] (fun _ => [(0, .c (T s)), (1, .p 0 0 0)]) (fun _ => [.box (ascL cut)]) (by decide) (ZNL hE) ZCF (fun _ => .box rfl (C0 (zT _)) .nil) (fun _ => ?_)
  exact ⟨_, s, rfl, hl, rfl, rfl, rfl⟩
 rintro m F H ⟨r, hm, hrl, hr, rfl, rfl⟩
 rcases List.eq_nil_or_concat r with rfl | ⟨r1, b, rfl⟩
 ·refine WA ?_
  refine zP rfl (by simp) ?_
  refine ZZ ?_
  refine WA ?_
  exact zi [some 0] [.box (ascL cut)] rfl rfl rfl (by decide) (ZNK rfl) (fun _ => .box rfl (C0 (zT _)) .nil) ⟨by rw [← hr]; rfl, rfl⟩
 rw [List.concat_eq_append] at *
 have hb : (r1 ++ [b])[r1.length]? = some b := by simp
 have hlen : ((r1 ++ [b]).length : Int) = (r1.length : Int) + 1 := by simp
 have hsn := trR_snoc (fun b => cut.contains b) r1 b
 have hlr : r1.length ≤ 1000000000 := by rw [List.length_append] at hrl; omega
 refine WA ?_
 refine zb rfl ?_
 obtain ⟨q, hq⟩ : ∃ q, cut.contains b = q := ⟨_, rfl⟩
 refine ZR ?_
 iterate 5 refine WX1 ?_
 refine ZA (rd_idxs (i := r1.length) rfl Tryz.underlying9 rfl rfl (by first | (simp; done) | (simp; omega)) hb) ?_
 refine zf rfl (zD [0] (fun _ => [.box (ascL cut)]) false (fun _ => aschas_v cut b) rfl .fn rfl (by decide) (by kernel_rfl) rfl (fun _ => .cons (.p rfl) (.cons (.c rfl) .nil)) (by decide) (fun _ => .box rfl (C0 (zT _)) .nil) (by simp)) ?_
 rintro F1 H1 ⟨_, _, _, _, ⟨rfl, rfl⟩, hF, hH⟩
 rw [hq] at hF
 (refine NSU hF hH ?_; clear hF hH; rintro rfl rfl)
 refine WE ?_
 cases q with
 | true =>
  rw [if_pos hq] at hsn
  refine zd rfl ?_
  refine ZZ ?_
  refine ZR ?_
  iterate 4 refine WX1 ?_
  refine ZA (rd_slcs (i := 0) (j := r1.length) rfl Tryz.underlying9 rfl (.inl ⟨rfl, rfl⟩) (.inr ⟨_, _, _, rfl, rfl, by simp⟩) (by first | (simp; done) | (simp; omega)) (by first | (simp; done) | (simp; omega))) ?_
  refine WE ?_
  refine zh [some 0] (fun _ => [(0, .c (T r1)), (1, .p 0 0 0)]) (fun _ => [.box (ascL cut)]) (by decide) (ZNL hE) ZCF (fun _ => .box rfl (C0 (zT _)) .nil) (fun _ => ?_)
  exact ⟨_, by rw [← hm, List.length_append]; exact Nat.lt_succ_self _, r1, rfl, hlr, by rw [← hr, hsn], rfl, rfl⟩
 | false =>
  rw [if_neg (by rw [hq]; simp)] at hsn
  refine zb rfl ?_
  refine ZZ ?_
  refine WA ?_
  exact zi [some 0] [.box (ascL cut)] rfl rfl rfl (by decide) (ZNK rfl) (fun _ => .box rfl (C0 (zT _)) .nil) ⟨by rw [← hr, hsn], rfl⟩
theorem triml_v (cut s : List UInt8) (hl : s.length ≤ 1000000000) : ACalls Tryz.prog 132 [.c (T s), .p 0 0 0] [.box (ascL cut)] fun u H => u = .c (T (s.dropWhile fun b => cut.contains b)) ∧ H = [.box (ascL cut)] := by
 refine ze (N := 16) Tryz.func132 rfl rfl (by simp) fun E hE => ?_
 refine WA ?_
 refine zk (fun m F H => ∃ r : List UInt8, r.length = m ∧ r.length ≤ 1000000000 ∧ (r.dropWhile fun b => cut.contains b) = (s.dropWhile fun b => cut.contains b) ∧ F = [(0, .c (T r)), (1, .p 0 0 0)] ∧ H = [.box (ascL cut)]) ?_ ?_
 ·refine zh [some 0] (fun _ => [(0, .c (T s)), (1, .p 0 0 0)]) (fun _ => [.box (ascL cut)]) (by decide) (ZNL hE) ZCF (fun _ => .box rfl (C0 (zT _)) .nil) (fun _ => ?_)
  exact ⟨_, s, rfl, hl, rfl, rfl, rfl⟩
 rintro m F H ⟨r, hm, hrl, hr, rfl, rfl⟩
 cases r with
 | nil =>
  refine WA ?_
  refine zP rfl (by simp) ?_
  refine ZZ ?_
  refine WA ?_
  exact zi [some 0] [.box (ascL cut)] rfl rfl rfl (by decide) (ZNK rfl) (fun _ => .box rfl (C0 (zT _)) .nil) ⟨by rw [← hr]; rfl, rfl⟩
 | cons b r1 =>
 have hb : (b :: r1)[0]? = some b := rfl
 have hlr : r1.length ≤ 1000000000 := by rw [List.length_cons] at hrl; omega
 rw [List.dropWhile_cons] at hr
 obtain ⟨q, hq⟩ : ∃ q, cut.contains b = q := ⟨_, rfl⟩
 rw [hq] at hr
 refine WA ?_
 refine zW rfl (by first | (simp; done) | (simp; omega)) ?_
 refine ZR ?_
 iterate 2 refine WX1 ?_
 refine ZA (rd_idxs (i := 0) rfl Tryz.underlying9 rfl rfl (by first | (simp; done) | (simp; omega)) hb) ?_
 refine zf rfl (zD [0] (fun _ => [.box (ascL cut)]) false (fun _ => aschas_v cut b) rfl .fn rfl (by decide) (by kernel_rfl) rfl (fun _ => .cons (.p rfl) (.cons (.c rfl) .nil)) (by decide) (fun _ => .box rfl (C0 (zT _)) .nil) (by simp)) ?_
 rintro F1 H1 ⟨_, _, _, _, ⟨rfl, rfl⟩, hF, hH⟩
 rw [hq] at hF
 (refine NSU hF hH ?_; clear hF hH; rintro rfl rfl)
 refine WE ?_
 cases q with
 | true =>
  rw [if_pos rfl] at hr
  refine zd rfl ?_
  refine ZZ ?_
  refine ZR ?_
  refine WX1 ?_
  refine ZA (rd_slcs (i := 1) (j := (r1.length + 1)) rfl Tryz.underlying9 rfl (.inr ⟨_, _, _, rfl, rfl, rfl⟩) (.inl ⟨rfl, rfl⟩) (by first | (simp; done) | (simp; omega)) (by first | (simp; done) | (simp; omega))) ?_
  refine WE ?_
  refine zh [some 0] (fun _ => [(0, .c (T r1)), (1, .p 0 0 0)]) (fun _ => [.box (ascL cut)]) (by decide) (ZNL hE) ZCF (fun _ => .box rfl (C0 (zT _)) .nil) (fun _ => ?_)
  exact ⟨_, by rw [← hm, List.length_cons]; exact Nat.lt_succ_self _, r1, rfl, hlr, hr, rfl, rfl⟩
 | false =>
  rw [if_neg (by simp)] at hr
  refine zb rfl ?_
  refine ZZ ?_
  refine WA ?_
  exact zi [some 0] [.box (ascL cut)] rfl rfl rfl (by decide) (ZNK rfl) (fun _ => .box rfl (C0 (zT _)) .nil) ⟨by rw [← hr], rfl⟩
theorem trim_v (cut s : List UInt8) (h8 : ∀ b ∈ cut, b < 128) (hc : 2 ≤ cut.length ∧ cut.length ≤ 1000000) (hl : s.length ≤ 1000000000) : ACalls Tryz.prog 91 [.c (T s), .c (T cut)] [] fun u H => u = .c (T (trB cut s)) ∧ H = [] := by
 have hcn : ¬ cut = [] := fun e => by rw [e] at hc; simp at hc
 refine ze (N := 43) Tryz.func91 rfl rfl (by simp) fun E hE => ?_
 by_cases hs : s = []
 ·subst hs
  refine WA ?_
  refine ZR ?_
  refine WX1 ?_
  refine ZA (rd_eqlsq (b := []) (decide_eq_true rfl) rfl Tryz.underlying9 rfl rfl) ?_
  iterate 2 refine WX1 ?_
  first | refine ZP (rd_eqlsq (b := []) (decide_eq_false hcn) rfl Tryz.underlying9 rfl rfl) ?_ | refine ZS ?_
  refine WE ?_
  refine zb rfl ?_
  refine WA ?_
  exact zi [] _ rfl rfl rfl (by decide) (ZNK rfl) (fun _ => .nil) ⟨rfl, rfl⟩
 refine WA ?_
 refine ZR ?_
 refine WX1 ?_
 refine ZA (rd_eqlsq (b := []) (decide_eq_false hs) rfl Tryz.underlying9 rfl rfl) ?_
 iterate 2 refine WX1 ?_
 first | refine ZP (rd_eqlsq (b := []) (decide_eq_false hcn) rfl Tryz.underlying9 rfl rfl) ?_ | refine ZS ?_
 refine WE ?_
 refine zd rfl ?_
 have hc1 : ¬ (cut.length : Int) = 1 := by omega
 refine ZZ ?_
 refine WA ?_
 refine zd rfl ?_
 refine ZZ ?_
 refine WR ?_
 refine zf rfl (za false (fun _ => makeascii_v cut h8 (by omega)) rfl .fn rfl (by decide) (by kernel_rfl) rfl (fun _ => C0 rfl) (by simp)) ?_
 rintro _ _ ⟨_, _, _, ⟨rfl, rfl⟩, hF, hH⟩
 generalize hAA : ascL cut = AA at hF
 (refine NST hF hH ?_; clear hF hH; rintro rfl rfl)
 subst hAA
 iterate 3 refine WX1 ?_
 refine zf rfl (ef_alloc (z := .agg (List.replicate 256 (Value.bool false)).toArray) (vs := List.replicate 256 (.bool false)) rfl rfl (by decide) (by kernel_rfl) rfl (by decide +kernel)) ?_
 rintro _ _ ⟨rfl, rfl⟩
 rw [ascL_nil]
 refine zf rfl (ef_storen (k := 256) (l' := ascL cut) rfl rfl rfl rfl rfl (by kernel_rfl) (zk1 cut) (by rw [zk1]; exact Nat.le_refl _) (ascL_one cut) (ascL_all _ cut) rfl) ?_
 rintro _ _ ⟨rfl, rfl⟩
 refine WE ?_
 refine WA ?_
 refine zb rfl ?_
 have hl2 := trR_len (fun b => cut.contains b) s
 refine WR ?_
 refine zf rfl (zD [0] (fun _ => [.box (ascL cut)]) false (fun _ => trimr_v cut s hl) rfl .fn rfl (by decide) (by kernel_rfl) rfl (fun _ => .cons (.c rfl) (.cons (.p rfl) .nil)) (by decide) (fun _ => .box rfl (C0 (zT _)) .nil) (by simp)) ?_
 rintro F1 H1 ⟨_, _, _, _, ⟨rfl, rfl⟩, hF, hH⟩
 (refine NSU hF hH ?_; clear hF hH; rintro rfl rfl)
 refine zf rfl (zD [0] (fun _ => [.box (ascL cut)]) false (fun _ => triml_v cut _ (by omega)) rfl .fn rfl (by decide) (by kernel_rfl) rfl (fun _ => .cons (.c rfl) (.cons (.p rfl) .nil)) (by decide) (fun _ => .box rfl (C0 (zT _)) .nil) (by simp)) ?_
 rintro F1 H1 ⟨_, _, _, _, ⟨rfl, rfl⟩, hF, hH⟩
 (refine NSU hF hH ?_; clear hF hH; rintro rfl rfl)
 refine WE ?_
 exact zi [] _ rfl rfl rfl (by decide) (ZNK rfl) (fun _ => .nil) ⟨rfl, rfl⟩
end Go.Proofs.YtfilfijammemfaaGreatDoor
-- NEWM
namespace Go.Proofs.YtfilfijammemfaaGreatDoor
open Go Go.RowKit
set_option maxRecDepth 100000
theorem trB_ok (r : List UInt8) : decide (trB [35, 46] r ≠ []) = !okB2 r := by
 rw [Bool.eq_iff_iff, decide_eq_true_iff, Bool.not_eq_true', ne_eq, trB_nil, okB2, ← Bool.not_eq_true, List.all_eq_true]
 simp only [List.contains_cons, List.contains_nil, Bool.or_false]
set_option maxHeartbeats 1000000 in
theorem rrows_v (v : Value) (rows : List (List UInt8)) (hl : rows.length ≤ 1000000000) (hr : ∀ r ∈ rows, r.length ≤ 1000000000) : ACalls Tryz.prog 47 [.c (.r v (tR rows))] [] fun u H => u = .c (I (rowsR rows)) ∧ H = [] := by
 have e1 : (tR rows).length = rows.length := by simp
 refine ze (N := 37) Tryz.func47 rfl rfl (by simp) fun E hE => ?_
 refine WA ?_
 refine WA ?_
 refine zl rfl (fun h1 => ?_) (fun h1 => ?_)
 ·refine WA ?_
  exact zi [] _ rfl rfl rfl (by decide) (ZNK rfl) (fun _ => .nil) ⟨congrArg (fun z => AV.c (I z)) (by rw [rowsR, if_pos (by omega)]), rfl⟩
 have hc : rowsR rows = if rowsF (wid rows) rows ≠ 0 then rowsF (wid rows) rows else if rows ≠ [] ∧ 200 < wid rows then 2 else 0 := by rw [rowsR, if_neg (by omega)]
 refine ZZ ?_
 refine WA ?_
 refine zk (fun m F H => ∃ i : Nat, m + i = rows.length ∧ rowsF (wid rows) (rows.drop i) = rowsF (wid rows) rows ∧ F = [(0, .c (.r v (tR rows))), (8, .c (.r v (tR rows))), (9, .c (I (tR rows).length)), (10, .c (I i))] ∧ H = []) ?_ ?_
 ·refine zh [] (fun _ => [(0, .c (.r v (tR rows))), (8, .c (.r v (tR rows))), (9, .c (I (tR rows).length)), (10, .c (I (0 : Nat)))]) (fun _ => []) (by decide) (ZNL hE) ZCF (fun _ => .nil) (fun _ => ?_)
  exact ⟨rows.length, 0, by omega, rfl, rfl, rfl⟩
 rintro m F H ⟨i, hi, hfd, rfl, rfl⟩
 refine WA ?_
 refine zl rfl (fun hlt => ?_) (fun hge => ?_)
 ·obtain ⟨r0, hr0⟩ : ∃ r0, rows[0]? = some r0 := ⟨_, List.getElem?_eq_getElem (by omega)⟩
  have hrow0 : (tR rows)[0]? = some [T r0] := by rw [List.getElem?_map, hr0]; rfl
  have hwr : wid rows = r0.length := by rw [wid, headD_at hr0]
  obtain ⟨r, hri⟩ : ∃ r, rows[i]? = some r := ⟨_, List.getElem?_eq_getElem (by omega)⟩
  have hrow : (tR rows)[i]? = some [T r] := by rw [List.getElem?_map, hri]; rfl
  have hlr := hr r (List.mem_of_getElem? hri)
  have hdr := rowsF_drop (w := wid rows) hri
  refine WA ?_
  refine WA ?_
  refine zl rfl (fun h4 => ?_) (fun h4 => ?_)
  ·refine WA ?_
   have hrf : rowsF (wid rows) rows = 3 := by rw [← hfd, hdr, if_pos (by omega)]
   exact zi [] _ rfl rfl rfl (by decide) (ZNK rfl) (fun _ => .nil) ⟨congrArg (fun z => AV.c (I z)) (by rw [hc, hrf]; rfl), rfl⟩
  rw [if_neg (by omega)] at hdr
  obtain ⟨z, hz⟩ : ∃ z, trB [35, 46] r = z := ⟨_, rfl⟩
  have hzz := trB_ok r
  rw [hz] at hzz
  refine ZZ ?_
  refine WR ?_
  refine zf rfl (za false (fun _ => trim_v [35, 46] r (by decide) (by decide) hlr) rfl .fn rfl (by decide) (by kernel_rfl) rfl (fun _ => C0 rfl) (by simp)) ?_
  rintro _ _ ⟨_, _, _, ⟨rfl, rfl⟩, hF, hH⟩
  rw [hz] at hF
  (refine NST hF hH ?_; clear hF hH; rintro rfl rfl)
  refine WE ?_
  refine zl rfl (fun h5 => ?_) (fun h5 => ?_)
  ·refine WA ?_
   have hrf : rowsF (wid rows) rows = 9 := by rw [← hfd, hdr, if_pos (by rw [decide_eq_true h5] at hzz; simpa using hzz.symm)]
   exact zi [] _ rfl rfl rfl (by decide) (ZNK rfl) (fun _ => .nil) ⟨congrArg (fun z => AV.c (I z)) (by rw [hc, hrf]; rfl), rfl⟩
  rw [if_neg (by rw [decide_eq_false h5] at hzz; simp at hzz; rw [hzz]; simp)] at hdr
  refine ZZ ?_
  refine WA ?_
  refine zh [] (fun _ => [(0, .c (.r v (tR rows))), (8, .c (.r v (tR rows))), (9, .c (I (tR rows).length)), (10, .c (I (i + 1 : Nat)))]) (fun _ => []) (by decide) (ZNL hE) ZCF (fun _ => .nil) (fun _ => ?_)
  exact ⟨m - 1, by omega, i + 1, by omega, by rw [← hfd, hdr], rfl, rfl⟩
 have hrf : rowsF (wid rows) rows = 0 := by rw [← hfd, List.drop_eq_nil_of_le (by omega)]; rfl
 rw [hrf, if_neg (by simp)] at hc
 refine ZZ ?_
 by_cases h0 : rows = []
 ·subst h0
  have hc0 : ¬ (0 : Int) < ((tR []).length : Int) := by simp
  refine WA ?_
  refine zd rfl ?_
  refine ZZ ?_
  refine WA ?_
  exact zi [] _ rfl rfl rfl (by decide) (ZNK rfl) (fun _ => .nil) ⟨congrArg (fun z => AV.c (I z)) (by rw [hc]; rfl), rfl⟩
 ·have hpos := List.length_pos_iff.2 h0
  have hc0 : (0 : Int) < ((tR rows).length : Int) := by omega
  obtain ⟨r0, hr0⟩ : ∃ r0, rows[0]? = some r0 := ⟨_, List.getElem?_eq_getElem (by omega)⟩
  have hrow0 : (tR rows)[0]? = some [T r0] := by rw [List.getElem?_map, hr0]; rfl
  have hwr : wid rows = r0.length := by rw [wid, headD_at hr0]
  refine WA ?_
  refine zl rfl (fun h6 => ?_) (fun h6 => ?_)
  ·refine WA ?_
   exact zi [] _ rfl rfl rfl (by decide) (ZNK rfl) (fun _ => .nil) ⟨congrArg (fun z => AV.c (I z)) (by rw [hc, if_pos ⟨h0, by omega⟩]), rfl⟩
  ·refine ZZ ?_
   refine WA ?_
   exact zi [] _ rfl rfl rfl (by decide) (ZNK rfl) (fun _ => .nil) ⟨congrArg (fun z => AV.c (I z)) (by rw [hc, if_neg (fun h => h6 (by omega))]), rfl⟩
end Go.Proofs.YtfilfijammemfaaGreatDoor
