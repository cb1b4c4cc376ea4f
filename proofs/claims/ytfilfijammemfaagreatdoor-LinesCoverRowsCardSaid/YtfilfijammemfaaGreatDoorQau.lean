/- What is wrong with cells, by value. -/
import Derived.Test.YtfilfijammemfaaGreatDoorQat
set_option linter.unusedSimpArgs false
set_option linter.unusedVariables false
namespace Go.Proofs.YtfilfijammemfaaGreatDoor
open Go Go.RowKit
set_option maxRecDepth 100000
section
variable {P : Program} {N : Nat} {E : Env} {F : Fm} {H : List OB} {o : Oper} {S : Nat → Prop} {ρ : List (Option Nat)} {a : Act} {w w' : World} {t yt : TypeId} {x y : Operand}
theorem R.kill {b B sz cap : Nat} {e : TypeId} {rows : List (List CV)} (hR : R N E S ρ F H a w) (hB : atB ρ b = some B) (hH : H[b]? = some (.arr e sz cap rows)) (hs : w'.heap.size = w.heap.size) (hne : ∀ k, k ≠ B → w'.heap[k]? = w.heap[k]?) (hos : w'.os = w.os) (ht : w'.tape = w.tape) (hou : w'.output = w.output) (hdr : w'.drawn = w.drawn) (hp : E.pin = false) :
    R N E S ρ (killF (AV.den ρ H) [b] F) ((H.map (killO (AV.den ρ H) [b])).set b .dead) a w' := by
 have hblt : b < H.length := (List.getElem?_eq_some_iff.1 hH).1
 have he : ExB [b] ρ H ρ ((H.map (killO (AV.den ρ H) [b])).set b .dead) := by
  refine ⟨fun i hi hne => rfl, fun i hi hne => ?_, fun i hi hne => ?_, by simp⟩
  all_goals replace hne : i ≠ b := by simpa using hne
  ·unfold szAt; rw [List.getElem?_set_ne (Ne.symm hne), List.getElem?_map, List.getElem?_eq_getElem hi]; simp [killO_sz]
  ·unfold capAt; rw [List.getElem?_set_ne (Ne.symm hne), List.getElem?_map, List.getElem?_eq_getElem hi]; simp [killO_cap]
 have hm : Mo w S w' S := fun k hk => ⟨hk, hne k (fun e => hR.hp.ap b B hB (e ▸ hk))⟩
 have hin : ∀ i k B, inP ((H.map (killO (AV.den ρ H) [b])).set b .dead) i k B → inP H i k B := fun i k B hi => inP_kill (inP_set (fun _ _ h => by obtain ⟨l, h⟩ := hasP_pool h; cases h) hi)
 refine ⟨hR.df, hR.sz, fun i y hy => ?_, ⟨by simpa using hR.hp.len, hR.hp.nd, hR.hp.ap, fun i B' hi => by rw [hs]; exact hR.hp.lt i B' hi, fun k hk => by rw [hs]; exact hR.hp.sS k hk, fun i y hy => ?_, hR.hp.pl.same hin (by rw [hs]; exact Nat.le_refl _)⟩, ?_, hR.nw, hR.nS, fun i k B' h => hR.pw i k B' (hin i k B' h), fun i hi => ?_, fun hpp => by rw [hp] at hpp; cases hpp⟩
 ·obtain ⟨y', h1, rfl⟩ := lookup_killF hy
  obtain ⟨h2, h3⟩ := hR.fr i y' h1
  obtain ⟨h4, h5⟩ := h3.killed he hm
  exact ⟨by rw [h4]; exact h2, h5⟩
 ·rw [List.getElem?_set] at hy
  split at hy
  ·split at hy
   ·injection hy with hy; subst hy; trivial
   ·cases hy
  ·rename_i hbi
   rw [List.getElem?_map] at hy
   cases hz : H[i]? with
   | none => rw [hz] at hy; cases hy
   | some ob =>
    rw [hz] at hy
    simp only [Option.map_some, Option.some.injEq] at hy
    subst hy
    exact (hR.hp.blk i ob hz).killed he hm (fun B' hB' => hne B' (fun e => hbi (hR.hp.nd _ _ _ hB (e ▸ hB')))) (fun k B' hB' => hne B' (fun e => (hR.hp.pl.ps i k B' ⟨ob, hz, hB'⟩).2.1 b (e ▸ hB)))
 ·refine ⟨hos.trans hR.st.os, ht.trans hR.st.tape, hou.trans hR.st.output, by rw [hs]; exact hR.st.size, fun k hk hW => ?_, by rw [hdr]; exact hR.st.drawn⟩
  have : k ≠ B := fun e => by
   subst e
   rcases hR.nw b k hB with (h' | h') | h'
   ·omega
   ·exact hW (.inr h')
   ·exact hW (.inl ⟨_, h'.2⟩)
  rw [hne k this]
  exact hR.st.block k hk hW
 ·obtain ⟨h1, h2⟩ := hR.ln i hi
  refine ⟨by simpa using h1, fun o ho hs => ?_⟩
  obtain ⟨h3, o', h4, h5⟩ := h2 o ho hs
  have hib : i ≠ b := fun e => by rw [e, hH] at h4; injection h4 with h4; subst h4; exact hs h5.symm
  exact ⟨h3, killO (AV.den ρ H) [b] o', by rw [List.getElem?_set_ne (Ne.symm hib), List.getElem?_map, h4]; rfl, by rw [killO_shp]; exact h5⟩
theorem rd_sldata {b k n c : Nat} (ho : o.op = .call { callee := .builtin .unsafeSliceData, args := #[x], argTypes := #[t] }) (hx : ev F x = some (.o b k n c)) (hc : 0 < c) (hn : 0 < n) : Rd P N E o F H (.p b k 0) := fun S ρ a w hR => by
 obtain ⟨h1, h2⟩ := hR.ev hx
 cases h2 with
 | o h0 h3 h4 h5 =>
  cases hB : atB ρ b with
  | none => have := (h5 hB).1; omega
  | some B =>
   rw [AV.den, hB, Option.map_some] at h1
   refine ⟨?_, .p h0 (by rw [hB]; rfl)⟩
   have := Lib.run_unsafeSliceData_row (P := P) w #[t] o.type ⟨B, k * szAt H b, none⟩ n c (by omega)
   simp [execOp, ho, resolve, invoke, builtin, h1, this, AV.den, hB]
theorem ef_ustr {e t2 : TypeId} {b d cap : Nat} {l : List UInt8} (ho : o.op = .call { callee := .builtin .unsafeString, args := #[x, y], argTypes := #[t, t2] }) (hd : o.dst = some d) (hN : d < N) (hp : P.underlying t = some (.pointer e)) (hce : P.cellsOf e = 1) (hx : ev F x = some (.p b 0 0)) (hy : ev F y = some (.c (.s (.int .i64 l.length)))) (hH : H[b]? = some (.arr e 1 cap (l.map fun c => [.s (.int .u8 c.toNat)]))) (h0 : 0 < l.length) (h63 : l.length ≤ 9223372036854775807) (hpin : E.pin = false) :
    Ef P N E o F H fun F' H' => ∃ g, F' = (d, .c (T l)) :: killF g [b] F ∧ H' = (H.map (killO g [b])).set b .dead := fun S ρ a w hR => by
 have h1 := (hR.ev hx).1
 have h2 := (hR.ev hy).1
 simp only [AV.den, CV.den] at h1 h2
 rcases hR.hp.blk _ _ hH with ⟨_, _, h⟩ | ⟨B, cs, hB, hh, hcs, hmx, hrl, hrow, hcell⟩
 ·have := congrArg List.length h
  rw [List.length_map, List.length_nil] at this; omega
 rw [hB] at h1
 simp only [Option.map_some, Nat.zero_mul, Nat.zero_add] at h1
 have hl : l.length ≤ cap := by simpa using hrl
 have hsh : w.shape? B = some (e, cs.size) := by unfold World.shape?; rw [hh]
 have hcl : ∀ (j : Nat) (c : UInt8), l[j]? = some c → w.cell? ((⟨B, 0, none⟩ : Addr).add j) = some (.int .u8 c.toNat) := fun j c hj => by
  have h3 := hcell j 0 [.s (.int .u8 c.toNat)] (.s (.int .u8 c.toNat)) (by rw [List.getElem?_map, hj]; rfl) rfl
  have : ((⟨B, 0, none⟩ : Addr).add j) = ⟨B, j, none⟩ := by
   unfold Addr.add; split
   ·rename_i h; subst h; rfl
   ·simp
  rw [this]
  unfold World.cell?
  rw [hh]
  simpa [CV.den] using h3
 have hrun := Lib.run_unsafeString_row (P := P) w t t2 o.type e hp hce B cs.size hsh l (fun e => by rw [e] at h0; simp at h0) (by rw [hcs]; omega) h63 hcl
 unfold effO
 have hex : (execOp a.eval o).run P w = .ok (.value (.string (bst l))) (w.freeze ⟨B, 0, none⟩ l.length) := by
  unfold execOp
  simp only [ho, resolve, invoke, builtin, Sem.run_bind, Sem.run_pure, Result.andThen_ok, List.map_toArray, List.map_cons, List.map_nil, h1, h2, hrun]
 rw [hex]
 have hn0 : ¬ l.length = 0 := by omega
 have hk := R.kill (w' := w.freeze ⟨B, 0, none⟩ l.length) hR hB hH (by unfold World.freeze; rw [if_neg hn0]; simp) (fun k hk => by unfold World.freeze; rw [if_neg hn0]; simp [Array.getElem?_modify, Ne.symm hk]) (by unfold World.freeze; rw [if_neg hn0]) (by unfold World.freeze; rw [if_neg hn0]) (by unfold World.freeze; rw [if_neg hn0]) (by unfold World.freeze; rw [if_neg hn0]) hpin
 refine ⟨S, ρ, _, _, ⟨AV.den ρ H, rfl, rfl⟩, ?_⟩
 rw [hd]
 exact hk.put hN (.c (.s _))
theorem rd_same {f : FuncId} {fn : Func} {tys : Array TypeId} {v : AV} (ho : o.op = .call { callee := .value (.func f), args := #[x], argTypes := tys }) (hx : ev F x = some v)
    (hf : P.funcs[f]? = some fn) (hname : (fn.name == "runtime.NumGoroutine") = false) (hb : fn.body.isNone = true) (hn : Extern.findNext fn = none) (he : Extern.find fn = some Extern.AbiNoEscape.same) : Rd P N E o F H v := fun S ρ a w hR => by
 obtain ⟨h1, h2⟩ := hR.ev hx
 have h3 : a.eval (.func f) = .func (.func f) #[] #[] := rfl
 refine ⟨?_, h2⟩
 have hs : (Extern.AbiNoEscape.same #[v.den ρ H]).run P w = .ok (v.den ρ H) w := rfl
 simp [execOp, ho, resolve, h1, h3, Deferred.ofValue, invoke, run_callFunc_extern hf hname hb hn he, hs]
end
end Go.Proofs.YtfilfijammemfaaGreatDoor
-- NEWM
namespace Go.Proofs.YtfilfijammemfaaGreatDoor
open Go Go.RowKit
set_option maxRecDepth 100000
abbrev uR (l : List UInt8) : List (List CV) := l.map fun c => [.s (.int .u8 c.toNat)]
abbrev bldB (A : AV) (b n c : Nat) : OB := .boxt 203 [A, .o b 0 n c]
abbrev bldA (c : Nat) (l : List UInt8) : OB := .arr 5 1 c (uR l)
abbrev pnil : AV := .c (.s (.pointer none))
theorem copycheck_v (A : AV) (n c : Nat) (l : List UInt8) (hA : A = pnil ∨ A = .p 0 0 0) : ACallsX true Tryz.prog 163 [.p 0 0 0] [bldB A 1 n c, bldA c l] fun u H => u = .t [] ∧ H = [bldB (.p 0 0 0) 1 n c, bldA c l] := by
 refine zK true (N := 20) Tryz.func163 rfl rfl (by simp) fun E hE hP => ?_
 rcases hA with rfl | rfl
 ·refine ZR ?_
  iterate 4 refine WX1 ?_
  refine ZA (rd_pnil rfl (by kernel_rfl) rfl) ?_
  refine WE ?_
  refine zb rfl ?_
  refine ZR ?_
  iterate 2 refine WX1 ?_
  refine ZA (rd_tounsafe rfl Tryz.underlying200 Tryz.underlying304 (by kernel_rfl) rfl rfl (by simp)) ?_
  refine ZA (rd_same rfl rfl rfl rfl rfl rfl rfl) ?_
  refine ZA (rd_fromunsafe rfl Tryz.underlying304 Tryz.underlying200 (by kernel_rfl) (by simp) (by kernel_rfl) rfl rfl) ?_
  iterate 2 refine WX1 ?_
  refine zf rfl (ef_storet rfl rfl rfl rfl rfl (KS (t := 200) rfl) rfl (by simp) rfl rfl) ?_
  rintro _ _ ⟨rfl, rfl⟩
  refine WE ?_
  exact zF1 [some 0, some 1] (fun _ => [bldB (.p 0 0 0) 1 n c, bldA c l]) (.inr rfl) rfl (by decide) (ZNK rfl) ZCH (fun _ => ⟨rfl, rfl⟩)
 ·refine ZR ?_
  iterate 4 refine WX1 ?_
  refine ZA (rd_pnot rfl (by kernel_rfl) rfl) ?_
  refine WE ?_
  refine zd rfl ?_
  refine ZZ ?_
  refine ZR ?_
  iterate 5 refine WX1 ?_
  refine ZA (rd_psame (n := 1) rfl Tryz.underlying200 (by kernel_rfl) rfl rfl) ?_
  refine WE ?_
  refine zd rfl ?_
  refine ZZ ?_
  exact zF1 [some 0, some 1] (fun _ => [bldB (.p 0 0 0) 1 n c, bldA c l]) (.inr rfl) rfl (by decide) (ZNK rfl) ZCH (fun _ => ⟨rfl, rfl⟩)
theorem writebyte_v (A : AV) (c : Nat) (l : List UInt8) (b : UInt8) (hA : A = pnil ∨ A = .p 0 0 0) (hl : l.length ≤ 1000000) : ACalls Tryz.prog 117 [.p 0 0 0, .c (.s (.int .u8 b.toNat))] [bldB A 1 l.length c, bldA c l] fun u H => ∃ c', u = .c (.s .nilIface) ∧ H = [bldB (.p 0 0 0) 1 (l ++ [b]).length c', bldA c' (l ++ [b])] ∧ (l ++ [b]).length ≤ c' := by
 have eu : (uR l).length = l.length := by simp
 have hcv : ∀ g : AV → Value, CvH g [some 0, some 1] [bldB A 1 l.length c, bldA c l] false [some 0, some 1] [bldB A 1 l.length c, bldA c l] := fun g => by
  rcases hA with rfl | rfl
  ·exact .oth rfl (.boxt (.cons (.c rfl) (.cons (.o rfl rfl) .nil))) (.arr rfl rfl .nil)
  ·exact .oth rfl (.boxt (.cons (.p rfl) (.cons (.o rfl rfl) .nil))) (.arr rfl rfl .nil)
 refine zK false (N := 17) Tryz.func117 rfl rfl (by simp) fun E hE hP => ?_
 refine WA ?_
 refine WR ?_
 refine zf rfl (zb1 [0, 1] (fun _ => [bldB A 1 l.length c, bldA c l]) false (fun _ => copycheck_v A l.length c l hA) rfl .fn rfl (by decide) (by kernel_rfl) rfl (fun _ => .cons (.p rfl) .nil) (by decide) hcv (by simp)) ?_
 rintro F1 H1 ⟨_, _, _, _, ⟨rfl, rfl⟩, hF, hH⟩
 rw [zI] at hF; (refine NSU hF hH ?_; clear hF hH; rintro rfl rfl)
 refine WE ?_
 refine WR ?_
 refine zf rfl (Zapp (KA (t := 201) rfl)) ?_
 rintro _ _ ⟨_, cc, hcc, rfl, rfl⟩
 iterate 2 refine WX1 ?_
 refine zf rfl (ef_storet rfl rfl rfl rfl rfl (KS (t := 201) rfl) rfl (by simp) rfl rfl) ?_
 rintro _ _ ⟨rfl, rfl⟩
 refine WE ?_
 refine WA ?_
 exact zi [some 0, some 1] [bldB (.p 0 0 0) 1 (l ++ [b]).length cc, bldA cc (l ++ [b])] rfl rfl rfl (by decide) (ZNK rfl) (fun _ => .oth rfl (.boxt (.cons (.p rfl) (.cons (.o rfl (by simp)) .nil))) (.arr rfl (by simp) .nil)) ⟨cc, rfl, rfl, by simp at *; omega⟩
theorem bstring_v (A : AV) (c : Nat) (l : List UInt8) (h0 : 0 < l.length) (hl : l.length ≤ 1000000) (hc : l.length ≤ c) (hA : A = .p 0 0 0) : ACalls Tryz.prog 118 [.p 0 0 0] [bldB A 1 l.length c, bldA c l] fun u H => u = .c (T l) ∧ ∃ z, H = [.boxt 203 [.p 0 0 0, z], .dead] := by
 subst hA
 refine zK false (N := 14) Tryz.func118 rfl rfl (by simp) fun E hE hP => ?_
 refine WA ?_
 refine ZZ ?_
 refine zg [(0, none), (1, none), (2, none), (3, none), (4, none), (5, none), (6, none), (7, none), (8, none), (9, none), (10, some []), (11, none)] zn (by kernel_rfl) ?_
 iterate 4 refine WX2 ?_
 refine ZT rfl (rd_sldata rfl rfl (by omega) (by omega)) ?_
 iterate 5 refine WX2 ?_
 refine zY rfl rfl (ef_ustr (l := l) rfl rfl (by decide) Tryz.underlying247 (by kernel_rfl) rfl rfl rfl (by omega) (by omega) hP) ?_
 rintro _ _ ⟨_, rfl, rfl⟩
 refine ⟨zm, ?_⟩
 refine WQ ?_
 exact zi [some 0, some 1] [.boxt 203 [.p 0 0 0, .c (.s _)], .dead] rfl rfl rfl (by decide) (ZNK rfl) (fun _ => .oth rfl (.boxt (.cons (.p rfl) (.cons (.c rfl) .nil))) (.oth rfl .dead .nil)) ⟨rfl, _, rfl⟩
end Go.Proofs.YtfilfijammemfaaGreatDoor
-- NEWM
namespace Go.Proofs.YtfilfijammemfaaGreatDoor
open Go Go.RowKit
set_option maxRecDepth 100000
theorem spt_eq (g : Grd) (k : Nat) : (g.x + (k : Int) % (g.w : Int), g.y + (k : Int) / (g.w : Int)) = spt g k := by unfold spt; simp
theorem each_at {g : Grd} (hg : GOk g) {k : Nat} (hk : k < g.on.length) : 1 ≤ (g.w : Int) ∧ (0 ≤ (k : Int) % (g.w : Int) ∧ (k : Int) % (g.w : Int) < 1000) ∧ (0 ≤ (k : Int) / (g.w : Int) ∧ (k : Int) / (g.w : Int) < 1000) := by
 have hn := hg.len
 have hw : 0 < g.w := by
  rcases Nat.eq_zero_or_pos g.w with e | e
  ·rw [hn, e] at hk; simp at hk
  ·exact e
 have h1 := Nat.mod_lt k hw
 have h2 : k / g.w < g.h := Nat.div_lt_of_lt_mul (by rw [← hn]; exact hk)
 have h3 := hg.w
 have h4 := hg.h
 rw [← Int.natCast_emod, ← Int.natCast_ediv]
 generalize k % g.w = r at h1 ⊢
 generalize k / g.w = q at h2 ⊢
 omega
theorem covK_next {g : Grd} {k : Nat} {b : Bool} (h : g.on[k]? = some b) : covK g (k + 1) = covK g k ++ (if b = true then [spt g k] else []) := by
 rw [covK_snoc, List.getD_eq_getElem?_getD, h]; rfl
theorem x0_snoc (L : List Spot) (a b : Int) (h : L ≠ []) : x0 (L ++ [(a, b)]) = min (x0 L) a ∧ y0 (L ++ [(a, b)]) = min (y0 L) b ∧ x1 (L ++ [(a, b)]) = max (x1 L) a ∧ y1 (L ++ [(a, b)]) = max (y1 L) b := by
 have hc : cols L ≠ [] := by simpa [cols] using h
 have hr : rws L ≠ [] := by simpa [rws] using h
 unfold x0 y0 x1 y1
 rw [cols, rws, List.map_append, List.map_append]
 exact ⟨mnL_snoc hc, mnL_snoc hr, mxL_snoc hc, mxL_snoc hr⟩
abbrev bxS (L : List Spot) : OB := .box [.c (B (!L.isEmpty))]
abbrev bxL (L : List Spot) : OB := .box [.c (I (x0 L)), .c (I (y0 L))]
abbrev bxG (L : List Spot) : OB := .box [.c (I (x1 L)), .c (I (y1 L))]
theorem box1_v (L : List Spot) (a b : Int) : ACalls Tryz.prog 162 [.c (I a), .c (I b), .p 0 0 0, .p 1 0 0, .p 2 0 0] [bxS L, bxL L, bxG L] fun u H => u = .t [] ∧ H = [bxS (L ++ [(a, b)]), bxL (L ++ [(a, b)]), bxG (L ++ [(a, b)])] := by
 have hne : (!(L ++ [(a, b)]).isEmpty) = true := by simp
 refine ze (N := 33) Tryz.func162 rfl rfl (by simp) fun E hE => ?_
 refine WA ?_
 refine WA ?_
 refine aw_cut (fun F H => ∃ lx ly hx hy : Int, min lx a = x0 (L ++ [(a, b)]) ∧ min ly b = y0 (L ++ [(a, b)]) ∧ max hx a = x1 (L ++ [(a, b)]) ∧ max hy b = y1 (L ++ [(a, b)]) ∧ F = [(0, .c (I a)), (1, .c (I b)), (3, .p 1 0 0), (4, .p 2 0 0)] ∧ H = [.box [.c (B true)], .box [.c (I lx), .c (I ly)], .box [.c (I hx), .c (I hy)]]) ?_ ?_ wk_aw
 ·cases L with
  | nil =>
   refine zb rfl ?_
   refine ZZ ?_
   refine zg [(0, none), (1, none), (2, some [1]), (3, some []), (4, some [])] zn (by kernel_rfl) ?_
   refine WQ ?_
   all_goals (exact zh [some 0, some 1, some 2] (fun _ => [(0, .c (I a)), (1, .c (I b)), (3, .p 1 0 0), (4, .p 2 0 0)]) (fun _ => [.box [.c (B true)], .box [.c (I a), .c (I b)], .box [.c (I a), .c (I b)]]) (by decide) (ZNL hE) ZCF ZCH (fun _ => ⟨a, b, a, b, by simp [x0, cols, mnL], by simp [y0, rws, mnL], by simp [x1, cols, mxL], by simp [y1, rws, mxL], rfl, rfl⟩))
  | cons p L =>
   obtain ⟨h1, h2, h3, h4⟩ := x0_snoc (p :: L) a b (by simp)
   refine zd rfl ?_
   refine ZZ ?_
   exact zh [some 0, some 1, some 2] (fun _ => [(0, .c (I a)), (1, .c (I b)), (3, .p 1 0 0), (4, .p 2 0 0)]) (fun _ => [.box [.c (B true)], .box [.c (I (x0 (p :: L))), .c (I (y0 (p :: L)))], .box [.c (I (x1 (p :: L))), .c (I (y1 (p :: L)))]]) (by decide) (ZNL hE) ZCF ZCH (fun _ => ⟨_, _, _, _, h1.symm, h2.symm, h3.symm, h4.symm, rfl, rfl⟩)
 rintro F H ⟨lx, ly, hx, hy, e1, e2, e3, e4, rfl, rfl⟩
 refine ZZ ?_
 refine WA ?_
 refine WA ?_
 exact zF1 [some 0, some 1, some 2] (fun _ => [bxS (L ++ [(a, b)]), bxL (L ++ [(a, b)]), bxG (L ++ [(a, b)])]) (.inr rfl) rfl (by decide) (ZNK rfl) (fun _ => .box rfl (.cons (.c (by rw [hne])) .nil) (.box rfl (.cons (.c (by rw [← e1])) (.cons (.c (by rw [← e2])) .nil)) (.box rfl (.cons (.c (by rw [← e3])) (.cons (.c (by rw [← e4])) .nil)) .nil))) (fun _ => ⟨rfl, rfl⟩)
set_option maxHeartbeats 1000000 in
theorem each_box (g : Grd) (pv v : Value)  (hg : GOk g)  : ACalls Tryz.prog 78 [gV pv v g, .f (.func 162) [.p 0 0 0, .p 1 0 0, .p 2 0 0]] [bxS (covK g 0), bxL (covK g 0), bxG (covK g 0)] fun u H => u = .t [] ∧ H = [bxS (covG g), bxL (covG g), bxG (covG g)] := by
 have hn := hg.n
 have hgx := hg.x
 have hgy := hg.y
 have eo : (oR g.on).length = g.on.length := by simp
 refine zK false (N := 42) Tryz.func78 rfl rfl (by simp) fun E hE hP => ?_
 refine WA ?_
 refine zk (fun m F H => ∃ k : Nat, m + k = g.on.length ∧ F = [(0, gV pv v g), (1, .f (.func 162) [.p 0 0 0, .p 1 0 0, .p 2 0 0]), (9, .c (.r v (oR g.on))), (10, .c (I (oR g.on).length)), (11, .c (I k))] ∧ H = [bxS (covK g k), bxL (covK g k), bxG (covK g k)]) ?_ ?_
 ·refine zh [some 0, some 1, some 2] (fun _ => [(0, gV pv v g), (1, .f (.func 162) [.p 0 0 0, .p 1 0 0, .p 2 0 0]), (9, .c (.r v (oR g.on))), (10, .c (I (oR g.on).length)), (11, .c (I (0 : Nat)))]) (fun _ => [bxS (covK g 0), bxL (covK g 0), bxG (covK g 0)]) (by decide) (ZNL hE) ZCF ZCH (fun _ => ?_)
  exact ⟨g.on.length, 0, by omega, rfl, rfl⟩
 rintro m F H ⟨k, hk, rfl, rfl⟩
 refine WA ?_
 refine zl rfl (fun hlt => ?_) (fun hge => ?_)
 ·have hkn : k < g.on.length := by omega
  obtain ⟨b, hb⟩ : ∃ b, g.on[k]? = some b := ⟨_, List.getElem?_eq_getElem hkn⟩
  have hrow : (oR g.on)[k]? = some [B b] := by rw [List.getElem?_map, hb]; rfl
  obtain ⟨w1, ⟨w2, w3⟩, w4, w5⟩ := each_at hg hkn
  refine WA ?_
  refine WA ?_
  cases b with
  | true =>
   refine zb rfl ?_
   have hnx : covK g (k + 1) = covK g k ++ [spt g k] := covK_next hb
   refine ZZ ?_
   refine zg [(0, none), (1, none), (2, none), (3, none), (4, none), (5, none), (6, none), (7, none), (8, none), (9, none), (10, none), (11, none), (12, none), (13, none), (14, none), (15, none), (16, none), (17, none), (18, none), (19, none), (20, none), (21, none), (22, none), (23, some [])] zn (by kernel_rfl) ?_
   refine WP ?_
   refine zY rfl rfl (zD [0, 1, 2] (fun _ => [bxS (covK g k), bxL (covK g k), bxG (covK g k)]) false (fun _ => box1_v (covK g k) _ _) rfl (.clo rfl) rfl (by decide) (by kernel_rfl) rfl (fun _ => .cons (.c rfl) (.cons (.c rfl) (.cons (.p rfl) (.cons (.p rfl) (.cons (.p rfl) .nil))))) (by decide) ZCH (by simp)) ?_
   rintro F1 H1 ⟨_, _, _, _, ⟨rfl, rfl⟩, hF, hH⟩
   rw [spt_eq, ← hnx] at hH
   (refine NSU hF hH ?_; clear hF hH; rintro rfl rfl)
   refine ⟨zm, ?_⟩
   refine WQ ?_
   refine WA ?_
   refine zh [some 0, some 1, some 2] (fun _ => [(0, gV pv v g), (1, .f (.func 162) [.p 0 0 0, .p 1 0 0, .p 2 0 0]), (9, .c (.r v (oR g.on))), (10, .c (I (oR g.on).length)), (11, .c (I (k + 1 : Nat)))]) (fun _ => [bxS (covK g (k + 1)), bxL (covK g (k + 1)), bxG (covK g (k + 1))]) (by decide) (ZNL hE) ZCF ZCH (fun _ => ?_)
   exact ⟨m - 1, by omega, k + 1, by omega, rfl, rfl⟩
  | false =>
   refine zd rfl ?_
   refine ZZ ?_
   refine WA ?_
   refine zh [some 0, some 1, some 2] (fun _ => [(0, gV pv v g), (1, .f (.func 162) [.p 0 0 0, .p 1 0 0, .p 2 0 0]), (9, .c (.r v (oR g.on))), (10, .c (I (oR g.on).length)), (11, .c (I (k + 1 : Nat)))]) (fun _ => [bxS (covK g (k + 1)), bxL (covK g (k + 1)), bxG (covK g (k + 1))]) (by decide) (ZNL hE) ZCF (by rw [show covK g (k + 1) = covK g k by simpa using covK_next hb]; exact ZCH) (fun _ => ?_)
   exact ⟨m - 1, by omega, k + 1, by omega, rfl, rfl⟩
 obtain rfl : k = g.on.length := by omega
 refine ZZ ?_
 skip
 exact zF1 [some 0, some 1, some 2] (fun _ => [bxS (covG g), bxL (covG g), bxG (covG g)]) (.inr rfl) rfl (by decide) (ZNK rfl) ZCH (fun _ => ⟨rfl, rfl⟩)
end Go.Proofs.YtfilfijammemfaaGreatDoor
-- NEWM
namespace Go.Proofs.YtfilfijammemfaaGreatDoor
open Go Go.RowKit
set_option maxRecDepth 100000
def outB (n lo hi : Int) : Bool := decide (n < lo) || decide (hi < n)
theorem out_v (n lo hi : Int) : ACalls Tryz.prog 40 [.c (I n), .c (I lo), .c (I hi)] [] fun u H => u = .c (B (outB n lo hi)) ∧ H = [] := by
 refine ze (N := 15) Tryz.func40 rfl rfl (by simp) fun E hE => ?_
 by_cases h1 : n < lo
 ·repeat' (first
   | (with_reducible refine zt1 ?_) | (with_reducible refine zw1 ?_) | (with_reducible refine zv1 ?_) | (with_reducible refine zA1 ?_) | (with_reducible refine zy1 ?_) | (with_reducible refine zB1 ?_) | (with_reducible refine zz1 rfl ?_) | (with_reducible refine zx1 ?_) | (with_reducible refine zV ?_) | (with_reducible refine zM ?_) | (with_reducible refine zu1 ?_) | (with_reducible refine zX ?_)
   | refine zb rfl ?_ | refine zd rfl ?_ | refine zW rfl (by assumption) ?_ | refine zP rfl (by assumption) ?_ | refine zl rfl (fun _ => ?_) (fun _ => ?_) | refine zC rfl (fun _ => ?_) (fun _ => ?_)
   | (refine zo ?_; refine WE ?_))
  exact zi [] _ rfl rfl rfl (by decide) (ZNK rfl) (fun _ => .nil) ⟨congrArg (fun z => AV.c (B z)) (by simp [outB, h1]), rfl⟩
 ·by_cases h2 : hi < n
  ·repeat' (first
    | (with_reducible refine zt1 ?_) | (with_reducible refine zw1 ?_) | (with_reducible refine zv1 ?_) | (with_reducible refine zA1 ?_) | (with_reducible refine zy1 ?_) | (with_reducible refine zB1 ?_) | (with_reducible refine zz1 rfl ?_) | (with_reducible refine zx1 ?_) | (with_reducible refine zV ?_) | (with_reducible refine zM ?_) | (with_reducible refine zu1 ?_) | (with_reducible refine zX ?_)
    | refine zb rfl ?_ | refine zd rfl ?_ | refine zW rfl (by assumption) ?_ | refine zP rfl (by assumption) ?_ | refine zl rfl (fun _ => ?_) (fun _ => ?_) | refine zC rfl (fun _ => ?_) (fun _ => ?_)
    | (refine zo ?_; refine WE ?_))
   exact zi [] _ rfl rfl rfl (by decide) (ZNK rfl) (fun _ => .nil) ⟨congrArg (fun z => AV.c (B z)) (by simp [outB, h2]), rfl⟩
  ·repeat' (first
    | (with_reducible refine zt1 ?_) | (with_reducible refine zw1 ?_) | (with_reducible refine zv1 ?_) | (with_reducible refine zA1 ?_) | (with_reducible refine zy1 ?_) | (with_reducible refine zB1 ?_) | (with_reducible refine zz1 rfl ?_) | (with_reducible refine zx1 ?_) | (with_reducible refine zV ?_) | (with_reducible refine zM ?_) | (with_reducible refine zu1 ?_) | (with_reducible refine zX ?_)
    | refine zb rfl ?_ | refine zd rfl ?_ | refine zW rfl (by assumption) ?_ | refine zP rfl (by assumption) ?_ | refine zl rfl (fun _ => ?_) (fun _ => ?_) | refine zC rfl (fun _ => ?_) (fun _ => ?_)
    | (refine zo ?_; refine WE ?_))
   exact zi [] _ rfl rfl rfl (by decide) (ZNK rfl) (fun _ => .nil) ⟨congrArg (fun z => AV.c (B z)) (by simp [outB, h1, h2]), rfl⟩
theorem isl_v (l : List UInt8) : ACalls Tryz.prog 166 [.c (T l), .c (.s (.int .u8 35))] [] fun u H => u = .c (I (idxB 35 l 0)) ∧ H = [] := by
 refine ze (N := 8) Tryz.func166 rfl rfl (by simp) fun E hE => ?_
 repeat' (first
  | (with_reducible refine zt1 ?_) | (with_reducible refine zw1 ?_) | (with_reducible refine zv1 ?_) | (with_reducible refine zA1 ?_) | (with_reducible refine zy1 ?_) | (with_reducible refine zB1 ?_) | (with_reducible refine zz1 rfl ?_) | (with_reducible refine zx1 ?_) | (with_reducible refine zV ?_) | (with_reducible refine zM ?_) | (with_reducible refine zu1 ?_) | (with_reducible refine zX ?_)
  | refine zb rfl ?_ | refine zd rfl ?_ | refine zW rfl (by assumption) ?_ | refine zP rfl (by assumption) ?_ | refine zl rfl (fun _ => ?_) (fun _ => ?_) | refine zC rfl (fun _ => ?_) (fun _ => ?_)
  | (refine zo (id := 1) ?_
     refine WO ?_
     refine ZA (rd_ext (us := [.string (bst l), .int .u8 35]) rfl rfl (fun _ _ => rfl) Tryz.func212 (by decide +kernel) rfl rfl rfl (fun w => run_indexByte_string _ _ w)) ?_
     refine WE ?_)
  | (refine zo ?_; refine WE ?_))
 exact zi [] _ rfl rfl rfl (by decide) (ZNK rfl) (fun _ => .nil) ⟨congrArg (fun z => AV.c (I z)) (firstIdx_eq l _), rfl⟩
theorem sib_v (l : List UInt8) : ACalls Tryz.prog 124 [.c (T l), .c (.s (.int .u8 35))] [] fun u H => u = .c (I (idxB 35 l 0)) ∧ H = [] := by
 refine ze (N := 8) Tryz.func124 rfl rfl (by simp) fun E hE => ?_
 repeat' (first
  | (with_reducible refine zt1 ?_) | (with_reducible refine zw1 ?_) | (with_reducible refine zv1 ?_) | (with_reducible refine zA1 ?_) | (with_reducible refine zy1 ?_) | (with_reducible refine zB1 ?_) | (with_reducible refine zz1 rfl ?_) | (with_reducible refine zx1 ?_) | (with_reducible refine zV ?_) | (with_reducible refine zM ?_) | (with_reducible refine zu1 ?_) | (with_reducible refine zX ?_)
  | refine zb rfl ?_ | refine zd rfl ?_ | refine zW rfl (by assumption) ?_ | refine zP rfl (by assumption) ?_ | refine zl rfl (fun _ => ?_) (fun _ => ?_) | refine zC rfl (fun _ => ?_) (fun _ => ?_)
  | (refine zo (id := 1) ?_
     refine WO ?_
     refine zf rfl (za false (fun _ => isl_v l) rfl .fn rfl (by decide) (by kernel_rfl) rfl (fun _ => C0 rfl) (by simp)) ?_
     rintro _ _ ⟨_, _, _, ⟨rfl, rfl⟩, hF, hH⟩
     (refine NST hF hH ?_; clear hF hH; rintro rfl rfl)
     refine WE ?_)
  | (refine zo ?_; refine WE ?_))
 exact zi [] _ rfl rfl rfl (by decide) (ZNK rfl) (fun _ => .nil) ⟨rfl, rfl⟩
theorem has_v (l : List UInt8) : ACalls Tryz.prog 123 [.c (T l)] [] fun u H => u = .c (B (l.contains 35)) ∧ H = [] := by
 refine ze (N := 6) Tryz.func123 rfl rfl (by simp) fun E hE => ?_
 repeat' (first
  | (with_reducible refine zt1 ?_) | (with_reducible refine zw1 ?_) | (with_reducible refine zv1 ?_) | (with_reducible refine zA1 ?_) | (with_reducible refine zy1 ?_) | (with_reducible refine zB1 ?_) | (with_reducible refine zz1 rfl ?_) | (with_reducible refine zx1 ?_) | (with_reducible refine zV ?_) | (with_reducible refine zM ?_) | (with_reducible refine zu1 ?_) | (with_reducible refine zX ?_)
  | refine zb rfl ?_ | refine zd rfl ?_ | refine zW rfl (by assumption) ?_ | refine zP rfl (by assumption) ?_ | refine zl rfl (fun _ => ?_) (fun _ => ?_) | refine zC rfl (fun _ => ?_) (fun _ => ?_)
  | (refine zo (id := 1) ?_
     refine WO ?_
     refine zf rfl (za false (fun _ => sib_v l) rfl .fn rfl (by decide) (by kernel_rfl) rfl (fun _ => C0 rfl) (by simp)) ?_
     rintro _ _ ⟨_, _, _, ⟨rfl, rfl⟩, hF, hH⟩
     (refine NST hF hH ?_; clear hF hH; rintro rfl rfl)
     refine WE ?_)
  | (refine zo ?_; refine WE ?_))
 refine zi [] _ rfl rfl rfl (by decide) (ZNK rfl) (fun _ => .nil) ⟨congrArg (fun z => AV.c (B z)) ?_, rfl⟩
 have := idxB_neg (c := 35) (l := l) (i := 0)
 by_cases h : (35 : UInt8) ∈ l
 ·have := this.2 h; simp [h]; omega
 ·have : ¬ 0 ≤ idxB 35 l 0 := fun e => h (this.1 e)
  simp [h]; omega
theorem fst_v (l : List UInt8) (h : 0 < l.length) : ACalls Tryz.prog 126 [.c (T l)] [] fun u H => u = .c (B (l[0]? == some 35)) ∧ H = [] := by
 obtain ⟨b, hb⟩ : ∃ b, l[0]? = some b := ⟨_, List.getElem?_eq_getElem h⟩
 refine ze (N := 6) Tryz.func126 rfl rfl (by simp) fun E hE => ?_
 repeat' (first
  | (with_reducible refine zt1 ?_) | (with_reducible refine zw1 ?_) | (with_reducible refine zv1 ?_) | (with_reducible refine zA1 ?_) | (with_reducible refine zy1 ?_) | (with_reducible refine zB1 ?_) | (with_reducible refine zz1 rfl ?_) | (with_reducible refine zx1 ?_) | (with_reducible refine zV ?_) | (with_reducible refine zM ?_) | (with_reducible refine zu1 ?_) | (with_reducible refine zX ?_)
  | refine zb rfl ?_ | refine zd rfl ?_ | refine zW rfl (by assumption) ?_ | refine zP rfl (by assumption) ?_ | refine zl rfl (fun _ => ?_) (fun _ => ?_) | refine zC rfl (fun _ => ?_) (fun _ => ?_)
  | (refine zo ?_; refine WE ?_))
 exact zi [] _ rfl rfl rfl (by decide) (ZNK rfl) (fun _ => .nil) ⟨congrArg (fun z => AV.c (B z)) (by rw [hb, u8_35]; rfl), rfl⟩
theorem lst_v (l : List UInt8) (w : Nat) (h : 0 < w) (hw : w ≤ l.length) (hl : w ≤ 1000000000) : ACalls Tryz.prog 127 [.c (T l), .p 0 0 0] [.box [.c (I w)]] fun u H => u = .c (B (l[w - 1]? == some 35)) ∧ H = [.box [.c (I w)]] := by
 obtain ⟨b, hb⟩ : ∃ b, l[w - 1]? = some b := ⟨_, List.getElem?_eq_getElem (by omega)⟩
 refine ze (N := 9) Tryz.func127 rfl rfl (by simp) fun E hE => ?_
 repeat' (first
  | (with_reducible refine zt1 ?_) | (with_reducible refine zw1 ?_) | (with_reducible refine zv1 ?_) | (with_reducible refine zA1 ?_) | (with_reducible refine zy1 ?_) | (with_reducible refine zB1 ?_) | (with_reducible refine zz1 rfl ?_) | (with_reducible refine zx1 ?_) | (with_reducible refine zV ?_) | (with_reducible refine zM ?_) | (with_reducible refine zu1 ?_) | (with_reducible refine zX ?_)
  | refine zb rfl ?_ | refine zd rfl ?_ | refine zW rfl (by assumption) ?_ | refine zP rfl (by assumption) ?_ | refine zl rfl (fun _ => ?_) (fun _ => ?_) | refine zC rfl (fun _ => ?_) (fun _ => ?_)
  | (refine zo (id := 1) ?_
     iterate 3 refine WX1 ?_
     refine ZA (rd_idxs (i := w - 1) rfl Tryz.underlying9 rfl rfl (by omega) hb) ?_
     refine WE ?_)
  | (refine zo ?_; refine WE ?_))
 exact zi [some 0] _ rfl rfl rfl (by decide) (ZNK rfl) ZCH ⟨congrArg (fun z => AV.c (B z)) (by rw [hb, u8_35]; rfl), rfl⟩
theorem indexS_v  (fn : FuncId) (p : List UInt8 → Bool) (hfn : okFn Tryz.prog fn = true) (rows : List (List UInt8)) (v : Value) (hp : ∀ r ∈ rows, ACalls Tryz.prog fn [.c (T r)] [] fun u H => u = .c (B (p r)) ∧ H = []) (hl : rows.length ≤ 1000000000) :
    ACalls Tryz.prog 167 [.c (.r v (tR rows)), .f (.func fn) []] [] fun u H => ∃ r : Int, u = .c (I r) ∧ H = [] ∧ (0 ≤ r ↔ rows.any p = true) := by
 have e1 : (tR rows).length = rows.length := by simp
 refine ze (N := 19) Tryz.func167 rfl rfl (by simp) fun E hE => ?_
 refine WA ?_
 refine WA ?_
 refine zk (fun m F H => ∃ (k : Nat), m + k = rows.length ∧ (rows.drop k).any p = rows.any p ∧ F = [(0, .c (.r v (tR rows))), (1, .f (.func fn) []), (7, .c (I (tR rows).length)), (8, .c (I k))] ∧ H = []) ?_ ?_
 ·refine zh [] (fun _ => [(0, .c (.r v (tR rows))), (1, .f (.func fn) []), (7, .c (I (tR rows).length)), (8, .c (I (0 : Nat)))]) (fun _ => _) (by decide) (ZNL hE) ZCF (fun _ => .nil) (fun _ => ?_)
  exact ⟨rows.length, 0, by omega, rfl, rfl, rfl⟩
 rintro m F H ⟨k, hk, hf, rfl, rfl⟩
 refine WA ?_
 refine zl rfl (fun hlt => ?_) (fun hge => ?_)
 ·obtain ⟨r, hr⟩ : ∃ e, rows[k]? = some e := ⟨_, List.getElem?_eq_getElem (by omega)⟩
  have hrow : (tR rows)[k]? = some [T r] := by rw [List.getElem?_map, hr]; rfl
  have hfd : (rows.drop k).any p = (p r || (rows.drop (k + 1)).any p) := by rw [List.drop_eq_getElem_cons (by omega), List.any_cons]; rw [List.getElem?_eq_getElem (by omega)] at hr; injection hr with hr; rw [hr]
  refine WA ?_
  refine WR ?_
  refine zf rfl (za false (fun _ => hp r (List.mem_of_getElem? hr)) rfl (.clo rfl) rfl (by decide) hfn rfl (fun _ => C0 rfl) (by simp)) ?_
  rintro _ _ ⟨_, _, _, ⟨rfl, rfl⟩, hF, hH⟩
  (refine NST hF hH ?_; clear hF hH; rintro rfl rfl)
  refine WE ?_
  refine zC rfl (fun hpz => ?_) (fun hpz => ?_)
  ·refine WA ?_
   refine zi [] _ rfl rfl rfl (by decide) (ZNK rfl) (fun _ => .nil) ⟨_, rfl, rfl, ?_⟩
   rw [← hf, hfd, hpz]; simp
  ·refine ZZ ?_
   refine WA ?_
   refine zh [] (fun _ => [(0, .c (.r v (tR rows))), (1, .f (.func fn) []), (7, .c (I (tR rows).length)), (8, .c (I (k + 1 : Nat)))]) (fun _ => _) (by decide) (ZNL hE) ZCF (fun _ => .nil) (fun _ => ?_)
   exact ⟨m - 1, by omega, k + 1, by omega, by rw [← hf, hfd, hpz, Bool.false_or], rfl, rfl⟩
 refine WA ?_
 refine zi [] _ rfl rfl rfl (by decide) (ZNK rfl) (fun _ => .nil) ⟨_, rfl, rfl, ?_⟩
 rw [← hf, List.drop_eq_nil_of_le (by omega)]; simp
theorem containsS_v  (fn : FuncId) (p : List UInt8 → Bool) (hfn : okFn Tryz.prog fn = true) (rows : List (List UInt8)) (v : Value) (hp : ∀ r ∈ rows, ACalls Tryz.prog fn [.c (T r)] [] fun u H => u = .c (B (p r)) ∧ H = []) (hl : rows.length ≤ 1000000000) :
    ACalls Tryz.prog 125 [.c (.r v (tR rows)), .f (.func fn) []] [] fun u H => u = .c (B (rows.any p)) ∧ H = [] := by
 refine ze (N := 9) Tryz.func125 rfl rfl (by simp) fun E hE => ?_
 refine WA ?_
 refine WR ?_
 refine zf rfl (za false (fun _ => indexS_v fn p hfn rows v hp hl) rfl .fn rfl (by decide) (by kernel_rfl) rfl (fun _ => C0 rfl) (by simp)) ?_
 rintro _ _ ⟨_, _, _, ⟨r, rfl, rfl, hr⟩, hF, hH⟩
 (refine NST hF hH ?_; clear hF hH; rintro rfl rfl)
 refine WE ?_
 refine zi [] _ rfl rfl rfl (by decide) (ZNK rfl) (fun _ => .nil) ⟨congrArg (fun z => AV.c (B z)) ?_, rfl⟩
 cases h : rows.any p
 ·rw [h] at hr; simp at hr ⊢; omega
 ·rw [h] at hr; simp at hr ⊢; omega
theorem indexSp_v (w : Nat) (fn : FuncId) (p : List UInt8 → Bool) (hfn : okFn Tryz.prog fn = true) (rows : List (List UInt8)) (v : Value) (hp : ∀ r ∈ rows, ACalls Tryz.prog fn [.c (T r), .p 0 0 0] [.box [.c (I w)]] fun u H => u = .c (B (p r)) ∧ H = [.box [.c (I w)]]) (hl : rows.length ≤ 1000000000) :
    ACalls Tryz.prog 167 [.c (.r v (tR rows)), .f (.func fn) [.p 0 0 0]] [.box [.c (I w)]] fun u H => ∃ r : Int, u = .c (I r) ∧ H = [.box [.c (I w)]] ∧ (0 ≤ r ↔ rows.any p = true) := by
 have e1 : (tR rows).length = rows.length := by simp
 refine ze (N := 19) Tryz.func167 rfl rfl (by simp) fun E hE => ?_
 refine WA ?_
 refine WA ?_
 refine zk (fun m F H => ∃ (k : Nat), m + k = rows.length ∧ (rows.drop k).any p = rows.any p ∧ F = [(0, .c (.r v (tR rows))), (1, .f (.func fn) [.p 0 0 0]), (7, .c (I (tR rows).length)), (8, .c (I k))] ∧ H = [.box [.c (I w)]]) ?_ ?_
 ·refine zh [some 0] (fun _ => [(0, .c (.r v (tR rows))), (1, .f (.func fn) [.p 0 0 0]), (7, .c (I (tR rows).length)), (8, .c (I (0 : Nat)))]) (fun _ => _) (by decide) (ZNL hE) ZCF ZCH (fun _ => ?_)
  exact ⟨rows.length, 0, by omega, rfl, rfl, rfl⟩
 rintro m F H ⟨k, hk, hf, rfl, rfl⟩
 refine WA ?_
 refine zl rfl (fun hlt => ?_) (fun hge => ?_)
 ·obtain ⟨r, hr⟩ : ∃ e, rows[k]? = some e := ⟨_, List.getElem?_eq_getElem (by omega)⟩
  have hrow : (tR rows)[k]? = some [T r] := by rw [List.getElem?_map, hr]; rfl
  have hfd : (rows.drop k).any p = (p r || (rows.drop (k + 1)).any p) := by rw [List.drop_eq_getElem_cons (by omega), List.any_cons]; rw [List.getElem?_eq_getElem (by omega)] at hr; injection hr with hr; rw [hr]
  refine WA ?_
  refine WR ?_
  refine zf rfl (zD [0] (fun _ => [.box [.c (I w)]]) false (fun _ => hp r (List.mem_of_getElem? hr)) rfl (.clo rfl) rfl (by decide) hfn rfl ZCH (by decide) ZCH (by simp)) ?_
  rintro F1 H1 ⟨_, _, _, _, ⟨rfl, rfl⟩, hF, hH⟩
  (refine NSU hF hH ?_; clear hF hH; rintro rfl rfl)
  refine WE ?_
  refine zC rfl (fun hpz => ?_) (fun hpz => ?_)
  ·refine WA ?_
   refine zi [some 0] _ rfl rfl rfl (by decide) (ZNK rfl) ZCH ⟨_, rfl, rfl, ?_⟩
   rw [← hf, hfd, hpz]; simp
  ·refine ZZ ?_
   refine WA ?_
   refine zh [some 0] (fun _ => [(0, .c (.r v (tR rows))), (1, .f (.func fn) [.p 0 0 0]), (7, .c (I (tR rows).length)), (8, .c (I (k + 1 : Nat)))]) (fun _ => _) (by decide) (ZNL hE) ZCF ZCH (fun _ => ?_)
   exact ⟨m - 1, by omega, k + 1, by omega, by rw [← hf, hfd, hpz, Bool.false_or], rfl, rfl⟩
 refine WA ?_
 refine zi [some 0] _ rfl rfl rfl (by decide) (ZNK rfl) ZCH ⟨_, rfl, rfl, ?_⟩
 rw [← hf, List.drop_eq_nil_of_le (by omega)]; simp
theorem containsSp_v (w : Nat) (fn : FuncId) (p : List UInt8 → Bool) (hfn : okFn Tryz.prog fn = true) (rows : List (List UInt8)) (v : Value) (hp : ∀ r ∈ rows, ACalls Tryz.prog fn [.c (T r), .p 0 0 0] [.box [.c (I w)]] fun u H => u = .c (B (p r)) ∧ H = [.box [.c (I w)]]) (hl : rows.length ≤ 1000000000) :
    ACalls Tryz.prog 125 [.c (.r v (tR rows)), .f (.func fn) [.p 0 0 0]] [.box [.c (I w)]] fun u H => u = .c (B (rows.any p)) ∧ H = [.box [.c (I w)]] := by
 refine ze (N := 9) Tryz.func125 rfl rfl (by simp) fun E hE => ?_
 refine WA ?_
 refine WR ?_
 refine zf rfl (zD [0] (fun _ => [.box [.c (I w)]]) false (fun _ => indexSp_v w fn p hfn rows v hp hl) rfl .fn rfl (by decide) (by kernel_rfl) rfl ZCH (by decide) ZCH (by simp)) ?_
 rintro F1 H1 ⟨_, _, _, _, ⟨r, rfl, rfl, hr⟩, hF, hH⟩
 (refine NSU hF hH ?_; clear hF hH; rintro rfl rfl)
 refine WE ?_
 refine zi [some 0] _ rfl rfl rfl (by decide) (ZNK rfl) ZCH ⟨congrArg (fun z => AV.c (B z)) ?_, rfl⟩
 cases h : rows.any p
 ·rw [h] at hr; simp at hr ⊢; omega
 ·rw [h] at hr; simp at hr ⊢; omega
end Go.Proofs.YtfilfijammemfaaGreatDoor
