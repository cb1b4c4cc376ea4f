/- Keys, moments and bounds, by value: the program's and the document's. -/
import Derived.Test.YtlhbfcfjepbhpaaGreatDoorQav
import Derived.Test.YtlhbfcfjepbhpaaGreatDoorQat
import Derived.Test.YtlhbfcfjepbhpaaGreatDoorQau
import Derived.Shelf.Strconv.Atoi
import Derived.Test.YtlhbfcfjepbhpaaGreatDoorProg
set_option linter.unusedSimpArgs false
set_option linter.unusedVariables false
-- NEWM
namespace Go.Proofs.YtlhbfcfjepbhpaaGreatDoor
open Go Go.RowKit
set_option maxRecDepth 100000
def trR (p : UInt8 → Bool) (s : List UInt8) : List UInt8 := (s.reverse.dropWhile p).reverse
abbrev trB (cut s : List UInt8) : List UInt8 := (trR (fun b => cut.contains b) s).dropWhile fun b => cut.contains b
theorem trR_snoc (p : UInt8 → Bool) (s : List UInt8) (b : UInt8) : trR p (s ++ [b]) = if p b = true then trR p s else s ++ [b] := by
 unfold trR
 rw [List.reverse_append, List.reverse_singleton, List.singleton_append, List.dropWhile_cons]
 split
 ·rfl
 ·rw [List.reverse_cons, List.reverse_reverse]
theorem trR_len (p : UInt8 → Bool) (s : List UInt8) : (trR p s).length ≤ s.length := by
 unfold trR
 rw [List.length_reverse]
 have := (List.dropWhile_suffix (l := s.reverse) p).length_le
 rwa [List.length_reverse] at this
theorem dropW_nil (p : UInt8 → Bool) : ∀ s : List UInt8, s.dropWhile p = [] ↔ ∀ b ∈ s, p b = true
 | [] => by simp
 | a :: s => by
  rw [List.dropWhile_cons]
  split
  ·rename_i h; rw [dropW_nil p s]; simp [h]
  ·rename_i h; simp [h]
theorem trB_nil (cut s : List UInt8) : trB cut s = [] ↔ ∀ b ∈ s, cut.contains b = true := by
 have e0 : (∀ b ∈ s, cut.contains b = true) ↔ ∀ b ∈ s, (fun b => cut.contains b) b = true := Iff.rfl
 rw [e0]
 unfold trB
 generalize (fun b => cut.contains b) = p
 rw [dropW_nil]
 constructor
 ·intro h
  have hn : trR p s = [] := by
   rcases List.eq_nil_or_concat (trR p s) with e | ⟨l, b, e⟩
   ·exact e
   ·exfalso
    rw [List.concat_eq_append] at e
    have hb := h b (by rw [e]; simp)
    unfold trR at e
    have e2 : s.reverse.dropWhile p = b :: l.reverse := by
     have := congrArg List.reverse e
     simpa using this
    have := List.head_dropWhile_not p (l := s.reverse) (by rw [e2]; simp)
    simp only [e2, List.head_cons] at this
    rw [this] at hb; cases hb
  unfold trR at hn
  have := (dropW_nil p s.reverse).1 (List.reverse_eq_nil_iff.1 hn)
  intro b hb
  exact this b (by simpa using hb)
 ·intro h b hb
  unfold trR at hb
  exact h b (by
   have := (List.dropWhile_suffix (l := s.reverse) p).subset (List.mem_reverse.1 hb)
   simpa using this)
theorem zO {P : Program} {N : Nat} {E : Env} {F : Fm} {H : List OB} {o : Oper} {t yt : TypeId} {x y : Operand} {a b : List UInt8} {q : Bool} (h : decide (a = b) = q) (ho : o.op = .binOp .eql t x y yt) (ht : P.underlying t = some .string) (hx : ev F x = some (.c (T a))) (hy : ev F y = some (.c (T b))) : Rd P N E o F H (.c (B q)) := h ▸ rd_eqls ho ht hx hy
theorem trimr_v (cut s : List UInt8) (hl : s.length ≤ 1000000000) : ACalls Tryz.prog 227 [.c (T s), .p 0 0 0] [.box (ascL cut)] fun u H => u = .c (T (trR (fun b => cut.contains b) s)) ∧ H = [.box (ascL cut)] := by
 refine zg (N := 22) Tryz.func227 rfl rfl (by simp) fun E hE => ?_
 refine WA ?_
 refine zK (fun m F H => ∃ r : List UInt8, r.length = m ∧ r.length ≤ 1000000000 ∧ trR (fun b => cut.contains b) r = trR (fun b => cut.contains b) s ∧ F = [(0, .c (T r)), (1, .p 0 0 0)] ∧ H = [.box (ascL cut)]) ?_ ?_
 ·refine zp [some 0] (fun _ => [(0, .c (T s)), (1, .p 0 0 0)]) (fun _ => [.box (ascL cut)]) (by decide) (ZNL hE) ZCF (fun _ => .box rfl (C0 (ze1 _)) .nil) (fun _ => ?_)
  exact ⟨_, s, rfl, hl, rfl, rfl, rfl⟩
 rintro m F H ⟨r, hm, hrl, hr, rfl, rfl⟩
 rcases List.eq_nil_or_concat r with rfl | ⟨r1, b, rfl⟩
 ·refine WA ?_
  refine zo rfl (by simp) ?_
  refine ZZ ?_
  refine WA ?_
  exact zh [some 0] [.box (ascL cut)] rfl rfl rfl (by decide) (ZNK rfl) (fun _ => .box rfl (C0 (ze1 _)) .nil) ⟨by rw [← hr]; rfl, rfl⟩
 rw [List.concat_eq_append] at *
 have hb : (r1 ++ [b])[r1.length]? = some b := by simp
 have hlen : ((r1 ++ [b]).length : Int) = (r1.length : Int) + 1 := by simp
 have hsn := trR_snoc (fun b => cut.contains b) r1 b
 have hlr : r1.length ≤ 1000000000 := by rw [List.length_append] at hrl; omega
 refine WA ?_
 refine zb rfl ?_
 obtain ⟨q, hq⟩ : ∃ q, cut.contains b = q := ⟨_, rfl⟩
 refine ZR ?_
 iterate 5 refine WX1 ?_
 refine ZA (zK1 (i := r1.length) rfl Tryz.underlying9 rfl rfl (by first | (simp; done) | (simp; omega)) hb) ?_
 refine zf rfl (zX [0] (fun _ => [.box (ascL cut)]) false (fun _ => aschas_v cut b) rfl .fn rfl (by decide) (by kernel_rfl) rfl (fun _ => .cons (.p rfl) (.cons (.c rfl) .nil)) (by decide) (fun _ => .box rfl (C0 (ze1 _)) .nil) (by simp)) ?_
 rintro F1 H1 ⟨_, _, _, _, ⟨rfl, rfl⟩, hF, hH⟩
 rw [hq] at hF
 (refine NSU hF hH ?_; clear hF hH; rintro rfl rfl)
 refine WE ?_
 cases q with
 | true =>
  rw [if_pos hq] at hsn
  refine za rfl ?_
  refine ZZ ?_
  refine ZR ?_
  iterate 4 refine WX1 ?_
  refine ZA (zr1 (i := 0) (j := r1.length) rfl Tryz.underlying9 rfl (.inl ⟨rfl, rfl⟩) (.inr ⟨_, _, _, rfl, rfl, by simp⟩) (by first | (simp; done) | (simp; omega)) (by first | (simp; done) | (simp; omega))) ?_
  refine WE ?_
  refine zp [some 0] (fun _ => [(0, .c (T r1)), (1, .p 0 0 0)]) (fun _ => [.box (ascL cut)]) (by decide) (ZNL hE) ZCF (fun _ => .box rfl (C0 (ze1 _)) .nil) (fun _ => ?_)
  exact ⟨_, by rw [← hm, List.length_append]; exact Nat.lt_succ_self _, r1, rfl, hlr, by rw [← hr, hsn], rfl, rfl⟩
 | false =>
  rw [if_neg (by rw [hq]; simp)] at hsn
  refine zb rfl ?_
  refine ZZ ?_
  refine WA ?_
  exact zh [some 0] [.box (ascL cut)] rfl rfl rfl (by decide) (ZNK rfl) (fun _ => .box rfl (C0 (ze1 _)) .nil) ⟨by rw [← hr, hsn], rfl⟩
theorem triml_v (cut s : List UInt8) (hl : s.length ≤ 1000000000) : ACalls Tryz.prog 226 [.c (T s), .p 0 0 0] [.box (ascL cut)] fun u H => u = .c (T (s.dropWhile fun b => cut.contains b)) ∧ H = [.box (ascL cut)] := by
 refine zg (N := 16) Tryz.func226 rfl rfl (by simp) fun E hE => ?_
 refine WA ?_
 refine zK (fun m F H => ∃ r : List UInt8, r.length = m ∧ r.length ≤ 1000000000 ∧ (r.dropWhile fun b => cut.contains b) = (s.dropWhile fun b => cut.contains b) ∧ F = [(0, .c (T r)), (1, .p 0 0 0)] ∧ H = [.box (ascL cut)]) ?_ ?_
 ·refine zp [some 0] (fun _ => [(0, .c (T s)), (1, .p 0 0 0)]) (fun _ => [.box (ascL cut)]) (by decide) (ZNL hE) ZCF (fun _ => .box rfl (C0 (ze1 _)) .nil) (fun _ => ?_)
  exact ⟨_, s, rfl, hl, rfl, rfl, rfl⟩
 rintro m F H ⟨r, hm, hrl, hr, rfl, rfl⟩
 cases r with
 | nil =>
  refine WA ?_
  refine zo rfl (by simp) ?_
  refine ZZ ?_
  refine WA ?_
  exact zh [some 0] [.box (ascL cut)] rfl rfl rfl (by decide) (ZNK rfl) (fun _ => .box rfl (C0 (ze1 _)) .nil) ⟨by rw [← hr]; rfl, rfl⟩
 | cons b r1 =>
 have hb : (b :: r1)[0]? = some b := rfl
 have hlr : r1.length ≤ 1000000000 := by rw [List.length_cons] at hrl; omega
 rw [List.dropWhile_cons] at hr
 obtain ⟨q, hq⟩ : ∃ q, cut.contains b = q := ⟨_, rfl⟩
 rw [hq] at hr
 refine WA ?_
 refine zr rfl (by first | (simp; done) | (simp; omega)) ?_
 refine ZR ?_
 iterate 2 refine WX1 ?_
 refine ZA (zK1 (i := 0) rfl Tryz.underlying9 rfl rfl (by first | (simp; done) | (simp; omega)) hb) ?_
 refine zf rfl (zX [0] (fun _ => [.box (ascL cut)]) false (fun _ => aschas_v cut b) rfl .fn rfl (by decide) (by kernel_rfl) rfl (fun _ => .cons (.p rfl) (.cons (.c rfl) .nil)) (by decide) (fun _ => .box rfl (C0 (ze1 _)) .nil) (by simp)) ?_
 rintro F1 H1 ⟨_, _, _, _, ⟨rfl, rfl⟩, hF, hH⟩
 rw [hq] at hF
 (refine NSU hF hH ?_; clear hF hH; rintro rfl rfl)
 refine WE ?_
 cases q with
 | true =>
  rw [if_pos rfl] at hr
  refine za rfl ?_
  refine ZZ ?_
  refine ZR ?_
  refine WX1 ?_
  refine ZA (zr1 (i := 1) (j := (r1.length + 1)) rfl Tryz.underlying9 rfl (.inr ⟨_, _, _, rfl, rfl, rfl⟩) (.inl ⟨rfl, rfl⟩) (by first | (simp; done) | (simp; omega)) (by first | (simp; done) | (simp; omega))) ?_
  refine WE ?_
  refine zp [some 0] (fun _ => [(0, .c (T r1)), (1, .p 0 0 0)]) (fun _ => [.box (ascL cut)]) (by decide) (ZNL hE) ZCF (fun _ => .box rfl (C0 (ze1 _)) .nil) (fun _ => ?_)
  exact ⟨_, by rw [← hm, List.length_cons]; exact Nat.lt_succ_self _, r1, rfl, hlr, hr, rfl, rfl⟩
 | false =>
  rw [if_neg (by simp)] at hr
  refine zb rfl ?_
  refine ZZ ?_
  refine WA ?_
  exact zh [some 0] [.box (ascL cut)] rfl rfl rfl (by decide) (ZNK rfl) (fun _ => .box rfl (C0 (ze1 _)) .nil) ⟨by rw [← hr], rfl⟩
theorem zM2 (cut s : List UInt8) (h8 : ∀ b ∈ cut, b < 128) (hc : 2 ≤ cut.length ∧ cut.length ≤ 1000000) (hl : s.length ≤ 1000000000) : ACalls Tryz.prog 152 [.c (T s), .c (T cut)] [] fun u H => u = .c (T (trB cut s)) ∧ H = [] := by
 have hcn : ¬ cut = [] := fun e => by rw [e] at hc; simp at hc
 refine zg (N := 43) Tryz.func152 rfl rfl (by simp) fun E hE => ?_
 by_cases hs : s = []
 ·subst hs
  refine WA ?_
  refine ZR ?_
  refine WX1 ?_
  refine ZA (zO (b := []) (decide_eq_true rfl) rfl Tryz.underlying9 rfl rfl) ?_
  iterate 2 refine WX1 ?_
  first | refine ZP (zO (b := []) (decide_eq_false hcn) rfl Tryz.underlying9 rfl rfl) ?_ | refine ZS ?_
  refine WE ?_
  refine zb rfl ?_
  refine WA ?_
  exact zh [] _ rfl rfl rfl (by decide) (ZNK rfl) (fun _ => .nil) ⟨rfl, rfl⟩
 refine WA ?_
 refine ZR ?_
 refine WX1 ?_
 refine ZA (zO (b := []) (decide_eq_false hs) rfl Tryz.underlying9 rfl rfl) ?_
 iterate 2 refine WX1 ?_
 first | refine ZP (zO (b := []) (decide_eq_false hcn) rfl Tryz.underlying9 rfl rfl) ?_ | refine ZS ?_
 refine WE ?_
 refine za rfl ?_
 have hc1 : ¬ (cut.length : Int) = 1 := by omega
 refine ZZ ?_
 refine WA ?_
 refine za rfl ?_
 refine ZZ ?_
 refine WR ?_
 refine zf rfl (zc false (fun _ => makeascii_v cut h8 (by omega)) rfl .fn rfl (by decide) (by kernel_rfl) rfl (fun _ => C0 rfl) (by simp)) ?_
 rintro _ _ ⟨_, _, _, ⟨rfl, rfl⟩, hF, hH⟩
 generalize hAA : ascL cut = AA at hF
 (refine NST hF hH ?_; clear hF hH; rintro rfl rfl)
 subst hAA
 iterate 3 refine WX1 ?_
 refine zf rfl (ef_alloc (z := .agg (List.replicate 256 (Value.bool false)).toArray) (vs := List.replicate 256 (.bool false)) rfl rfl (by decide) (by kernel_rfl) rfl (by decide +kernel)) ?_
 rintro _ _ ⟨rfl, rfl⟩
 rw [ascL_nil]
 refine zf rfl (zX2 (k := 256) (l' := ascL cut) rfl rfl rfl rfl rfl (by kernel_rfl) (zy1 cut) (by rw [zy1]; exact Nat.le_refl _) (ascL_one cut) (ascL_all _ cut) rfl) ?_
 rintro _ _ ⟨rfl, rfl⟩
 refine WE ?_
 refine WA ?_
 refine zb rfl ?_
 have hl2 := trR_len (fun b => cut.contains b) s
 refine WR ?_
 refine zf rfl (zX [0] (fun _ => [.box (ascL cut)]) false (fun _ => trimr_v cut s hl) rfl .fn rfl (by decide) (by kernel_rfl) rfl (fun _ => .cons (.c rfl) (.cons (.p rfl) .nil)) (by decide) (fun _ => .box rfl (C0 (ze1 _)) .nil) (by simp)) ?_
 rintro F1 H1 ⟨_, _, _, _, ⟨rfl, rfl⟩, hF, hH⟩
 (refine NSU hF hH ?_; clear hF hH; rintro rfl rfl)
 refine zf rfl (zX [0] (fun _ => [.box (ascL cut)]) false (fun _ => triml_v cut _ (by omega)) rfl .fn rfl (by decide) (by kernel_rfl) rfl (fun _ => .cons (.c rfl) (.cons (.p rfl) .nil)) (by decide) (fun _ => .box rfl (C0 (ze1 _)) .nil) (by simp)) ?_
 rintro F1 H1 ⟨_, _, _, _, ⟨rfl, rfl⟩, hF, hH⟩
 (refine NSU hF hH ?_; clear hF hH; rintro rfl rfl)
 refine WE ?_
 exact zh [] _ rfl rfl rfl (by decide) (ZNK rfl) (fun _ => .nil) ⟨rfl, rfl⟩
end Go.Proofs.YtlhbfcfjepbhpaaGreatDoor
namespace Go.Proofs.YtlhbfcfjepbhpaaGreatDoor
open Go Go.Shelf Go.RowKit
set_option maxRecDepth 100000
def atoiL_ren : Go.Shelf.Ren := ⟨fun | 172 => 159 | 244 => 236 | 245 => 237 | 247 => 289 | 279 => 290 | 280 => 291 | 281 => 292 | 282 => 293 | 287 => 339 | 316 => 340 | 171 => 61 | 205 => 341 | 321 => 368 | 322 => 369 | 243 => 113 | 246 => 168 | 283 => 242 | 284 => 243 | 285 => 244 | 286 => 245 | 129 => 181 | 317 => 297 | 318 => 298 | 319 => 299 | 320 => 300 | 337 => 343 | 338 => 344 | n => n, fun | 9 => 9 | 3 => 3 | 75 => 90 | 76 => 91 | 4 => 4 | 5 => 5 | 167 => 359 | 37 => 86 | 0 => 0 | 85 => 360 | 2 => 2 | 168 => 362 | 53 => 253 | 175 => 404 | 46 => 200 | 210 => 407 | 127 => 185 | 145 => 432 | 143 => 430 | 21 => 21 | 171 => 305 | 173 => 307 | 212 => 368 | 51 => 251 | 20 => 20 | 213 => 369 | 232 => 438 | 233 => 439 | 80 => 29 | n => n, fun | 15 => 2 | 16 => 3 | 17 => 1 | 18 => 6 | 19 => 7 | n => n⟩
theorem atoiL : Go.Proofs.Lays.n172 Tryz.prog atoiL_ren := {
 mixed := by kernel_rfl
 f129 := Tryz.func181.trans (congrArg some (by kernel_rfl))
 f171 := Tryz.func61.trans (congrArg some (by kernel_rfl))
 f172 := Tryz.func159.trans (congrArg some (by kernel_rfl))
 f205 := Tryz.func341.trans (congrArg some (by kernel_rfl))
 f243 := Tryz.func113.trans (congrArg some (by kernel_rfl))
 f244 := Tryz.func236.trans (congrArg some (by kernel_rfl))
 f245 := Tryz.func237.trans (congrArg some (by kernel_rfl))
 f246 := Tryz.func168.trans (congrArg some (by kernel_rfl))
 f247 := Tryz.func289.trans (congrArg some (by kernel_rfl))
 f279 := Tryz.func290.trans (congrArg some (by kernel_rfl))
 f280 := Tryz.func291.trans (congrArg some (by kernel_rfl))
 f281 := Tryz.func292.trans (congrArg some (by kernel_rfl))
 f282 := Tryz.func293.trans (congrArg some (by kernel_rfl))
 f283 := Tryz.func242.trans (congrArg some (by kernel_rfl))
 f284 := Tryz.func243.trans (congrArg some (by kernel_rfl))
 f285 := Tryz.func244.trans (congrArg some (by kernel_rfl))
 f286 := Tryz.func245.trans (congrArg some (by kernel_rfl))
 f287 := Tryz.func339.trans (congrArg some (by kernel_rfl))
 f316 := Tryz.func340.trans (congrArg some (by kernel_rfl))
 f317 := Tryz.func297.trans (congrArg some (by kernel_rfl))
 f318 := Tryz.func298.trans (congrArg some (by kernel_rfl))
 f319 := Tryz.func299.trans (congrArg some (by kernel_rfl))
 f320 := Tryz.func300.trans (congrArg some (by kernel_rfl))
 f321 := Tryz.func368.trans (congrArg some (by kernel_rfl))
 f322 := Tryz.func369.trans (congrArg some (by kernel_rfl))
 f337 := Tryz.func343.trans (congrArg some (by kernel_rfl))
 f338 := Tryz.func344.trans (congrArg some (by kernel_rfl))
 t0 := Tryz.underlying0
 a0 := Tryz.isAgg0
 z0 := Tryz.sizeOf0
 v0 := Tryz.zeroValue0
 t2 := Tryz.underlying2
 a2 := Tryz.isAgg2
 z2 := Tryz.sizeOf2
 v2 := Tryz.zeroValue2
 t3 := Tryz.underlying3
 a3 := Tryz.isAgg3
 z3 := Tryz.sizeOf3
 v3 := Tryz.zeroValue3
 t4 := Tryz.underlying4
 a4 := Tryz.isAgg4
 z4 := Tryz.sizeOf4
 v4 := Tryz.zeroValue4
 t5 := Tryz.underlying5
 a5 := Tryz.isAgg5
 z5 := Tryz.sizeOf5
 v5 := Tryz.zeroValue5
 t9 := Tryz.underlying9
 a9 := Tryz.isAgg9
 z9 := Tryz.sizeOf9
 v9 := Tryz.zeroValue9
 t20 := Tryz.underlying20
 a20 := Tryz.isAgg20
 z20 := Tryz.sizeOf20
 v20 := Tryz.zeroValue20
 t21 := Tryz.underlying21
 a21 := Tryz.isAgg21
 z21 := Tryz.sizeOf21
 v21 := Tryz.zeroValue21
 t37 := Tryz.underlying86
 a37 := Tryz.isAgg86
 z37 := Tryz.sizeOf86
 v37 := Tryz.zeroValue86
 t46 := Tryz.underlying200
 a46 := Tryz.isAgg200
 z46 := Tryz.sizeOf200
 v46 := Tryz.zeroValue200
 t51 := Tryz.underlying251
 a51 := Tryz.isAgg251
 z51 := Tryz.sizeOf251
 v51 := Tryz.zeroValue251
 t53 := Tryz.underlying253
 a53 := Tryz.isAgg253
 z53 := Tryz.sizeOf253
 v53 := Tryz.zeroValue253
 t75 := Tryz.underlying90
 a75 := Tryz.isAgg90
 z75 := Tryz.sizeOf90
 v75 := Tryz.zeroValue90
 t76 := Tryz.underlying91
 a76 := Tryz.isAgg91
 z76 := Tryz.sizeOf91
 v76 := Tryz.zeroValue91
 t85 := Tryz.underlying360
 a85 := Tryz.isAgg360
 z85 := Tryz.sizeOf360
 v85 := Tryz.zeroValue360
 t127 := Tryz.underlying185
 a127 := Tryz.isAgg185
 z127 := Tryz.sizeOf185
 v127 := Tryz.zeroValue185
 t143 := Tryz.underlying430
 a143 := Tryz.isAgg430
 z143 := Tryz.sizeOf430
 v143 := Tryz.zeroValue430
 t145 := Tryz.underlying432
 a145 := Tryz.isAgg432
 z145 := Tryz.sizeOf432
 v145 := Tryz.zeroValue432
 t167 := Tryz.underlying359
 a167 := Tryz.isAgg359
 z167 := Tryz.sizeOf359
 v167 := Tryz.zeroValue359
 t168 := Tryz.underlying362
 a168 := Tryz.isAgg362
 z168 := Tryz.sizeOf362
 v168 := Tryz.zeroValue362
 t171 := Tryz.underlying305
 a171 := Tryz.isAgg305
 z171 := Tryz.sizeOf305
 v171 := Tryz.zeroValue305
 t173 := Tryz.underlying307
 a173 := Tryz.isAgg307
 z173 := Tryz.sizeOf307
 v173 := Tryz.zeroValue307
 t175 := Tryz.underlying404
 a175 := Tryz.isAgg404
 z175 := Tryz.sizeOf404
 v175 := Tryz.zeroValue404
 t210 := Tryz.underlying407
 a210 := Tryz.isAgg407
 z210 := Tryz.sizeOf407
 v210 := Tryz.zeroValue407
 t212 := Tryz.underlying368
 a212 := Tryz.isAgg368
 z212 := Tryz.sizeOf368
 v212 := Tryz.zeroValue368
 t213 := Tryz.underlying369
 a213 := Tryz.isAgg369
 z213 := Tryz.sizeOf369
 t232 := Tryz.underlying438
 a232 := Tryz.isAgg438
 z232 := Tryz.sizeOf438
 v232 := Tryz.zeroValue438
 t233 := Tryz.underlying439
 a233 := Tryz.isAgg439
 z233 := Tryz.sizeOf439
 v233 := Tryz.zeroValue439
 g15 := by kernel_rfl
 g16 := by kernel_rfl
 g17 := by kernel_rfl
 g18 := by kernel_rfl
 g19 := by kernel_rfl }
theorem acalls_flat {P : Program} {f : FuncId} {args : List AV} {u : AV} {v : Value} (hu : ∀ w S ρ H, WF w S ρ H u ∧ u.den ρ H = v) (h : ∀ ρ w, Calls P f (args.map (AV.den ρ [])).toArray w fun e w' => e = .returned v ∧ w'.os = w.os ∧ w'.tape = w.tape ∧ w'.output = w.output ∧ w.heap.size ≤ w'.heap.size ∧ ∀ b, b < w.heap.size → w'.heap[b]? = w.heap[b]?) : ACalls P f args [] fun u' H => u' = u ∧ H = [] := fun S ρ w hR hW => by
 refine (calls_drawn (fun e w' hq => ⟨v, hq.1⟩) (h ρ w)).mono ?_
 rintro e w' ⟨⟨rfl, h1, h2, h3, h4, h5⟩, hd⟩
 refine ⟨u, [], ρ, S, by rw [(hu w' S ρ []).2], ⟨rfl, rfl⟩, (hu w' S ρ []).1, ⟨hR.len, hR.nd, hR.ap, fun i B h => Nat.lt_of_lt_of_le (hR.lt i B h) h4, fun b hb => Nat.lt_of_lt_of_le (hR.sS b hb) h4, fun i o h => by simp at h, PL.none fun _ _ _ => zM1⟩, ⟨h1, h2, h3, h4, fun b hb _ => h5 b hb, hd⟩, fun b hb => .inl hb, fun i B hi => ?_, fun i k' B hi => absurd hi zM1, fun i hi => by simp at hi, fun h => by cases h⟩
 have hr0 : ρ = [] := List.eq_nil_of_length_eq_zero hR.len
 subst hr0
 cases hi
theorem atoi_v (s : List UInt8) (n : Int) (hl : s.length ≤ 18) (h : Lib.atoi s = some n) : ACalls Tryz.prog 159 [.c (T s)] [] fun u H => u = .t [.c (I n), .c (.s .nilIface)] ∧ H = [] :=
 acalls_flat (v := .tuple #[.int .i64 n, .nilIface]) (fun w S ρ H => ⟨.t fun x hx => by
  simp only [List.mem_cons, List.not_mem_nil, or_false] at hx
  rcases hx with rfl | rfl
  ·exact .c (.s _)
  ·exact .c (.s _), rfl⟩) fun ρ w => (Any.strconv_Atoi atoiL (bst s) n (by show s.toArray.size ≤ 18; simpa using hl) (by show Lib.atoi s.toArray.toList = some n; simpa using h) w).mono (by
  rintro e w' ⟨rfl, t, rfl⟩
  exact ⟨rfl, rfl, rfl, rfl, by rw [Lib.bytesWorld_size]; omega, fun b h => Lib.bytesWorld_at_old w _ t b h⟩)
end Go.Proofs.YtlhbfcfjepbhpaaGreatDoor
-- NEWM
namespace Go.Proofs.YtlhbfcfjepbhpaaGreatDoor
open Go Go.RowKit
set_option maxRecDepth 100000
def outB (n lo hi : Int) : Bool := decide (n < lo) || decide (hi < n)
theorem out_v (n lo hi : Int) : ACalls Tryz.prog 126 [.c (I n), .c (I lo), .c (I hi)] [] fun u H => u = .c (B (outB n lo hi)) ∧ H = [] := by
 refine zg (N := 15) Tryz.func126 rfl rfl (by simp) fun E hE => ?_
 by_cases h1 : n < lo
 ·repeat' (first
   | (with_reducible refine zC ?_) | (with_reducible refine zA ?_) | (with_reducible refine zE ?_) | (with_reducible refine zI ?_) | (with_reducible refine zG ?_) | (with_reducible refine zJ ?_) | (with_reducible refine zH rfl ?_) | (with_reducible refine zF ?_) | (with_reducible refine zq ?_) | (with_reducible refine zj ?_) | (with_reducible refine zD ?_) | (with_reducible refine zt ?_)
   | refine zb rfl ?_ | refine za rfl ?_ | refine zr rfl (by assumption) ?_ | refine zo rfl (by assumption) ?_ | refine zw rfl (fun _ => ?_) (fun _ => ?_) | refine zn rfl (fun _ => ?_) (fun _ => ?_)
   | (refine zd ?_; refine WE ?_))
  exact zh [] _ rfl rfl rfl (by decide) (ZNK rfl) (fun _ => .nil) ⟨congrArg (fun z => AV.c (B z)) (by simp [outB, h1]), rfl⟩
 ·by_cases h2 : hi < n
  ·repeat' (first
    | (with_reducible refine zC ?_) | (with_reducible refine zA ?_) | (with_reducible refine zE ?_) | (with_reducible refine zI ?_) | (with_reducible refine zG ?_) | (with_reducible refine zJ ?_) | (with_reducible refine zH rfl ?_) | (with_reducible refine zF ?_) | (with_reducible refine zq ?_) | (with_reducible refine zj ?_) | (with_reducible refine zD ?_) | (with_reducible refine zt ?_)
    | refine zb rfl ?_ | refine za rfl ?_ | refine zr rfl (by assumption) ?_ | refine zo rfl (by assumption) ?_ | refine zw rfl (fun _ => ?_) (fun _ => ?_) | refine zn rfl (fun _ => ?_) (fun _ => ?_)
    | (refine zd ?_; refine WE ?_))
   exact zh [] _ rfl rfl rfl (by decide) (ZNK rfl) (fun _ => .nil) ⟨congrArg (fun z => AV.c (B z)) (by simp [outB, h2]), rfl⟩
  ·repeat' (first
    | (with_reducible refine zC ?_) | (with_reducible refine zA ?_) | (with_reducible refine zE ?_) | (with_reducible refine zI ?_) | (with_reducible refine zG ?_) | (with_reducible refine zJ ?_) | (with_reducible refine zH rfl ?_) | (with_reducible refine zF ?_) | (with_reducible refine zq ?_) | (with_reducible refine zj ?_) | (with_reducible refine zD ?_) | (with_reducible refine zt ?_)
    | refine zb rfl ?_ | refine za rfl ?_ | refine zr rfl (by assumption) ?_ | refine zo rfl (by assumption) ?_ | refine zw rfl (fun _ => ?_) (fun _ => ?_) | refine zn rfl (fun _ => ?_) (fun _ => ?_)
    | (refine zd ?_; refine WE ?_))
   exact zh [] _ rfl rfl rfl (by decide) (ZNK rfl) (fun _ => .nil) ⟨congrArg (fun z => AV.c (B z)) (by simp [outB, h1, h2]), rfl⟩
def moB (n : Int) : Bool := !outB n 0 345686399999
theorem zQ3 (n : Int) : ACalls Tryz.prog 127 [.c (I n)] [] fun u H => u = .c (B (moB n)) ∧ H = [] := by
 refine zg (N := 6) Tryz.func127 rfl rfl (by simp) fun E hE => ?_
 repeat' (first
  | (with_reducible refine zC ?_) | (with_reducible refine zA ?_) | (with_reducible refine zE ?_) | (with_reducible refine zI ?_) | (with_reducible refine zG ?_) | (with_reducible refine zJ ?_) | (with_reducible refine zH rfl ?_) | (with_reducible refine zF ?_) | (with_reducible refine zq ?_) | (with_reducible refine zj ?_) | (with_reducible refine zD ?_) | (with_reducible refine zt ?_)
  | refine zb rfl ?_ | refine za rfl ?_ | refine zr rfl (by assumption) ?_ | refine zo rfl (by assumption) ?_ | refine zw rfl (fun _ => ?_) (fun _ => ?_) | refine zn rfl (fun _ => ?_) (fun _ => ?_)
  | (refine zd (id := 1) ?_
     refine WO ?_
     refine zf rfl (zc false (fun _ => out_v _ _ _) rfl .fn rfl (by decide) (by kernel_rfl) rfl (fun _ => C0 rfl) (by simp)) ?_
     rintro _ _ ⟨_, _, _, ⟨rfl, rfl⟩, hF, hH⟩
     (refine NST hF hH ?_; clear hF hH; rintro rfl rfl)
     refine WE ?_)
  | (refine zd ?_; refine WE ?_))
 exact zh [] _ rfl rfl rfl (by decide) (ZNK rfl) (fun _ => .nil) ⟨rfl, rfl⟩
theorem isl_v (l : List UInt8) (c : UInt8) : ACalls Tryz.prog 253 [.c (T l), .c (.s (.int .u8 c.toNat))] [] fun u H => u = .c (I (idxB c l 0)) ∧ H = [] := by
 refine zg (N := 8) Tryz.func253 rfl rfl (by simp) fun E hE => ?_
 repeat' (first
  | (with_reducible refine zC ?_) | (with_reducible refine zA ?_) | (with_reducible refine zE ?_) | (with_reducible refine zI ?_) | (with_reducible refine zG ?_) | (with_reducible refine zJ ?_) | (with_reducible refine zH rfl ?_) | (with_reducible refine zF ?_) | (with_reducible refine zq ?_) | (with_reducible refine zj ?_) | (with_reducible refine zD ?_) | (with_reducible refine zt ?_)
  | refine zb rfl ?_ | refine za rfl ?_ | refine zr rfl (by assumption) ?_ | refine zo rfl (by assumption) ?_ | refine zw rfl (fun _ => ?_) (fun _ => ?_) | refine zn rfl (fun _ => ?_) (fun _ => ?_)
  | (refine zd (id := 1) ?_
     refine WO ?_
     refine ZA (rd_ext (us := [.string (bst l), .int .u8 c.toNat]) rfl rfl (fun _ _ => rfl) Tryz.func303 (by decide +kernel) rfl rfl rfl (fun w => run_indexByte_string _ _ w)) ?_
     refine WE ?_)
  | (refine zd ?_; refine WE ?_))
 exact zh [] _ rfl rfl rfl (by decide) (ZNK rfl) (fun _ => .nil) ⟨congrArg (fun z => AV.c (I z)) (by first | exact firstIdx_eq l c | (simp; exact firstIdx_eq l c)), rfl⟩
theorem sib_v (l : List UInt8) (c : UInt8) : ACalls Tryz.prog 182 [.c (T l), .c (.s (.int .u8 c.toNat))] [] fun u H => u = .c (I (idxB c l 0)) ∧ H = [] := by
 refine zg (N := 8) Tryz.func182 rfl rfl (by simp) fun E hE => ?_
 repeat' (first
  | (with_reducible refine zC ?_) | (with_reducible refine zA ?_) | (with_reducible refine zE ?_) | (with_reducible refine zI ?_) | (with_reducible refine zG ?_) | (with_reducible refine zJ ?_) | (with_reducible refine zH rfl ?_) | (with_reducible refine zF ?_) | (with_reducible refine zq ?_) | (with_reducible refine zj ?_) | (with_reducible refine zD ?_) | (with_reducible refine zt ?_)
  | refine zb rfl ?_ | refine za rfl ?_ | refine zr rfl (by assumption) ?_ | refine zo rfl (by assumption) ?_ | refine zw rfl (fun _ => ?_) (fun _ => ?_) | refine zn rfl (fun _ => ?_) (fun _ => ?_)
  | (refine zd (id := 1) ?_
     refine WO ?_
     refine zf rfl (zc false (fun _ => isl_v l c) rfl .fn rfl (by decide) (by kernel_rfl) rfl (fun _ => C0 rfl) (by simp)) ?_
     rintro _ _ ⟨_, _, _, ⟨rfl, rfl⟩, hF, hH⟩
     (refine NST hF hH ?_; clear hF hH; rintro rfl rfl)
     refine WE ?_)
  | (refine zd ?_; refine WE ?_))
 exact zh [] _ rfl rfl rfl (by decide) (ZNK rfl) (fun _ => .nil) ⟨rfl, rfl⟩
end Go.Proofs.YtlhbfcfjepbhpaaGreatDoor
