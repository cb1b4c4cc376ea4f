/- Grids, by value: new ones, what is covered, covering. -/
import Derived.Test.YtniolldgidgffaaGreatDoorQap
import Derived.Laws.IdiomStrings
import Derived.Laws.BytesString
import Derived.Laws.Externs
import Derived.Test.YtniolldgidgffaaGreatDoorQar
import Derived.Test.YtniolldgidgffaaGreatDoorQav
import Derived.Test.YtniolldgidgffaaGreatDoorQau
set_option linter.unusedSimpArgs false
set_option linter.unusedVariables false
/- Strings in the logic over values: bytes as a slice of the call's own, and back; functions without a body. -/
namespace Go.Proofs.YtniolldgidgffaaGreatDoor
open Go Go.RowKit
section
variable {P : Program} {N : Nat} {E : Env} {F : Fm} {H : List OB} {o : Oper} {S : Nat → Prop} {ρ : List (Option Nat)} {a : Act} {w : World} {t : TypeId} {x y : Operand}
theorem setCell_putf {B i : Nat} {t : TypeId} {cs : Array Value} {v : Value} {fr : Nat × Nat} (h : w.heap[B]? = some (.cells cs t fr)) : w.setCell ⟨B, i, none⟩ v = putBlk w B (.cells (cs.setIfInBounds i v) t fr) := by
 unfold World.setCell putBlk
 congr 1
 refine Array.ext_getElem? fun k => ?_
 rw [Array.getElem?_modify, Array.getElem?_setIfInBounds]
 by_cases hk : B = k
 ·subst hk
  have hlt : B < w.heap.size := by
   rcases Nat.lt_or_ge B w.heap.size with h' | h'
   ·exact h'
   ·rw [Array.getElem?_eq_none h'] at h; cases h
  rw [h]
  simp [hlt]
 ·simp [hk]
theorem ef_cvsb {src dst e : TypeId} {d : Nat} {l : List UInt8} (ho : o.op = .convert src dst x) (hs : P.underlying src = some .string) (ht : P.underlying dst = some (.slice e)) (he : P.underlying e = some (.int .u8)) (hd : o.dst = some d) (hN : d < N) (hx : ev F x = some (.c (T l))) :
    Ef P N E o F H fun F' H' => ∃ v, F' = (d, .c (.s v)) :: F ∧ H' = H ++ [.bts v l] := fun S ρ a w hR => by
 have h1 := (hR.ev hx).1
 simp only [AV.den, CV.den] at h1
 have hrun := run_bytes_of_string (P := P) w src dst e (bst l) hs ht he
 generalize hC : bytesRow (bst l) (grownCap w (bst l).size 0 e) = C at hrun
 generalize hcap : grownCap w (bst l).size 0 e = cap at hrun hC
 unfold effO
 have hex : (execOp a.eval o).run P w = .ok (.value (.slice (some ⟨w.heap.size, 0, none⟩) l.length cap)) (w.drew.alloc (.cells C e (C.size, C.size + 1))) := by
  simp only [execOp, ho, h1]
  rw [Sem.run_bind, hrun, bst_size]
  rfl
 rw [hex]
 have hR2 := (hR.drew).newO (.cells C e (C.size, C.size + 1)) (.bts (.slice (some ⟨w.heap.size, 0, none⟩) l.length cap) l) ⟨w.heap.size, C, e, cap, rfl, rfl, heap_new _ _, fun k b hb => by
  subst hC
  unfold bytesRow
  have hk := (List.getElem?_eq_some_iff.1 hb).1
  rw [Array.getElem?_append_left (by simpa [ByteArray.size] using hk)]
  simp [hb]⟩
 refine ⟨S, ρ ++ [some w.drew.heap.size], (d, .c (.s (.slice (some ⟨w.heap.size, 0, none⟩) l.length cap))) :: F, _, ⟨_, rfl, rfl⟩, ?_⟩
 rw [hd]
 exact hR2.put hN (.c (.s _))
theorem R.bts {v : Value} {l : List UInt8} {b : Nat} (hR : R N E S ρ F H a w) (hH : H[b]? = some (.bts v l)) : ∃ B cs e n, atB ρ b = some B ∧ v = .slice (some ⟨B, 0, none⟩) l.length n ∧ w.heap[B]? = some (.cells cs e (cs.size, cs.size + 1)) ∧ ∀ (k : Nat) (c : UInt8), l[k]? = some c → cs[k]? = some (.int .u8 c.toNat) := hR.hp.blk _ _ hH
theorem rd_lenb {e : TypeId} {sz b : Nat} {v : Value} {l : List UInt8} (ho : o.op = .call { callee := .builtin .len, args := #[x], argTypes := #[t] }) (ht : elemSz P t = some (e, sz)) (hx : ev F x = some (.c (.s v))) (hH : H[b]? = some (.bts v l)) : Rd P N E o F H (.c (.s (.int .i64 l.length))) := fun S ρ a w hR => by
 have h1 := (hR.ev hx).1
 simp only [AV.den, CV.den] at h1
 obtain ⟨B, cs, e', n, hB, hv, _, _⟩ := hR.bts hH
 refine ⟨?_, .c (.s _)⟩
 rw [hv] at h1
 simp [execOp, ho, resolve, invoke, builtin, h1, run_len (elemSz_spec ht).1, AV.den, CV.den]
theorem rd_ixb {e : TypeId} {ix : Operand} {b k : Nat} {kd : IntKind} {z : Int} {v : Value} {l : List UInt8} (ho : o.op = .indexAddr t x ix) (ht : elemSz P t = some (e, 1)) (hx : ev F x = some (.c (.s v))) (hH : H[b]? = some (.bts v l)) (hix : ev F ix = some (.c (.s (.int kd z)))) (hz : z = k) (hk : k < l.length) : Rd P N E o F H (.p b 0 k) := fun S ρ a w hR => by
 have h1 := (hR.ev hx).1
 have h2 := (hR.ev hix).1
 simp only [AV.den, CV.den] at h1 h2
 obtain ⟨B, cs, e', n, hB, hv, _, _⟩ := hR.bts hH
 have hsz : szAt H b = 0 := by unfold szAt; rw [hH]; rfl
 refine ⟨?_, .p (List.getElem?_eq_some_iff.1 hH).1 (by rw [hB]; rfl)⟩
 have := run_indexAt (P := P) (t := t) (B := B) (off := 0) (n := l.length) (c := n) (i := k) (kd := kd) (w := w) ht hk
 rw [hv] at h1
 subst hz
 simp [execOp, ho, h1, h2, this, AV.den, hB, hsz]
theorem ef_stob {b k : Nat} {v : Value} {l : List UInt8} {c : UInt8} (ho : o.op = .store t x y) (hd : o.dst = none) (ht : (P.info? t).map (·.size) = some 1) (hx : ev F x = some (.p b 0 k)) (hH : H[b]? = some (.bts v l)) (hy : ev F y = some (.c (.s (.int .u8 c.toNat)))) (hk : k < l.length) :
    Ef P N E o F H fun F' H' => F' = F ∧ H' = H.set b (.bts v (l.set k c)) := fun S ρ a w hR => by
 have g1 := (hR.ev hx).1
 have g2 := (hR.ev hy).1
 simp only [AV.den, CV.den] at g2
 obtain ⟨B, cs, e, n, hB, hv, hh, hcs⟩ := hR.bts hH
 have hsz : szAt H b = 0 := by unfold szAt; rw [hH]; rfl
 rw [AV.den, hB, hsz] at g1
 have hz : (sizeOf t).run P w = .ok 1 w := by
  unfold sizeOf typeInfo
  cases hi : P.info? t with
  | none => rw [hi] at ht; cases ht
  | some i => rw [hi] at ht; simp at ht; simp [hi, ht]
 have hkc : k < cs.size := by
  have := hcs k _ (List.getElem?_eq_getElem hk)
  rcases Nat.lt_or_ge k cs.size with h | h
  ·exact h
  ·rw [Array.getElem?_eq_none h] at this; cases this
 have hcell : w.cell? ⟨B, k, none⟩ = some (cs[k]'hkc) := by unfold World.cell?; rw [hh]; simp
 have hfr : w.frozen? ⟨B, k, none⟩ = false := by unfold World.frozen?; rw [hh]; simp; omega
 unfold effO
 have hex : (execOp a.eval o).run P w = .ok .skip (putBlk w B (.cells (cs.setIfInBounds k (.int .u8 c.toNat)) e (cs.size, cs.size + 1))) := by
  simp only [execOp, ho, g1, g2, Option.map_some, Instr.storeAt, Instr.sureAddr, storeVar, Sem.run_bind, Sem.run_pure, Result.andThen_ok, hz, Value.cells, List.size_toArray, List.length_singleton, ne_eq, not_true_eq_false, if_false, Nat.zero_mul, Nat.zero_add]
  simp only [storeCells, Sem.run_bind]
  have hadd : (⟨B, k, none⟩ : Addr).add 0 = ⟨B, k, none⟩ := by unfold Addr.add; simp
  rw [hadd, run_store P w _ _ _ rfl, hcell, hfr]
  simp [setCell_putf hh]
 rw [hex]
 refine ⟨S, ρ, _, _, ⟨rfl, rfl⟩, ?_⟩
 rw [hd]
 refine R.set (ob := .bts v l) hR hH hB rfl rfl (fun _ => rfl) (putBlk_size _ _) ⟨B, cs.setIfInBounds k (.int .u8 c.toNat), e, n, rfl, by rw [List.length_set]; exact hv, by rw [putBlk_at hh]; simp, fun i d hi => ?_⟩
 rw [List.getElem?_set] at hi
 rw [Array.getElem?_setIfInBounds]
 split at hi
 ·rename_i h; subst h
  rw [if_pos rfl, if_pos hkc]
  injection hi with hi; rw [hi]
 ·rename_i h
  rw [if_neg h]
  exact hcs i d hi
theorem rd_cvb {src dst e : TypeId} {b : Nat} {v : Value} {l : List UInt8} (ho : o.op = .convert src dst x) (hs : P.underlying src = some (.slice e)) (he : P.underlying e = some (.int .u8)) (hd : P.underlying dst = some .string) (hx : ev F x = some (.c (.s v))) (hH : H[b]? = some (.bts v l)) : Rd P N E o F H (.c (T l)) := fun S ρ a w hR => by
 have h1 := (hR.ev hx).1
 simp only [AV.den, CV.den] at h1
 obtain ⟨B, cs, e', n, hB, hv, hh, hcs⟩ := hR.bts hH
 have := run_convert_bytes_back (P := P) w src dst e ⟨B, 0, none⟩ n l hs he hd (fun j hj => by
  have h3 := hcs j _ (List.getElem?_eq_getElem hj)
  unfold World.cell?
  have : ((⟨B, 0, none⟩ : Addr).add j) = ⟨B, j, none⟩ := by
   unfold Addr.add; split
   ·rename_i h; subst h; rfl
   ·simp
  rw [this]
  simp only
  rw [hh]
  exact h3)
 refine ⟨?_, .c (.s _)⟩
 rw [hv] at h1
 simp [execOp, ho, h1, this, AV.den, CV.den]
theorem rd_ext {f : FuncId} {fn : Func} {args : Array Operand} {tys : Array TypeId} {vs : List AV} {us : List Value} {r : Value} {e : Array Value → Sem Value} (ho : o.op = .call { callee := .value (.func f), args := args, argTypes := tys }) (hargs : evL F args.toList = some vs) (hus : ∀ ρ H, vs.map (AV.den ρ H) = us)
    (hf : P.funcs[f]? = some fn) (hname : (fn.name == "runtime.NumGoroutine") = false) (hb : fn.body.isNone = true) (hn : Extern.findNext fn = none) (he : Extern.find fn = some e) (hr : ∀ w, (e us.toArray).run P w = .ok r w) : Rd P N E o F H (.c (.s r)) := fun S ρ a w hR => by
 obtain ⟨h1, _⟩ := evL_spec hR hargs
 rw [hus] at h1
 have h2 : args.map a.eval = us.toArray := by
  apply Array.ext'
  simpa using h1
 refine ⟨?_, .c (.s _)⟩
 have h3 : a.eval (.func f) = .func (.func f) #[] #[] := rfl
 simp [execOp, ho, resolve, h2, h3, Deferred.ofValue, invoke, run_callFunc_extern hf hname hb hn he, hr, AV.den, CV.den]
def idxB (c : UInt8) : List UInt8 → Nat → Int
 | [], _ => -1
 | b :: l, i => if b = c then i else idxB c l (i + 1)
theorem find_idxB {l : List UInt8} {c : UInt8} : ∀ (n i : Nat), i + n = l.length → (match (List.range' i n).find? (fun i => (bst l)[i]! == c) with | some i => (i : Int) | none => -1) = idxB c (l.drop i) i
 | 0, i, h => by rw [List.drop_eq_nil_of_le (by omega)]; rfl
 | n + 1, i, h => by
  have hi : i < l.length := by omega
  rw [List.drop_eq_getElem_cons hi, List.range'_succ, List.find?_cons]
  have hg : (bst l)[i]! = l[i] := by
   have h2 : i < (bst l).size := by rw [bst_size]; exact hi
   rw [getElem!_pos (bst l) i h2]
   rfl
  rw [hg, idxB]
  by_cases hc : l[i] = c
  ·rw [if_pos hc, hc]; simp
  ·rw [if_neg hc, show (l[i] == c) = false by simpa using hc]
   exact find_idxB n (i + 1) (by omega)
theorem firstIdx_eq (l : List UInt8) (c : UInt8) : firstIdx (bst l) c = idxB c l 0 := by
 have := find_idxB (l := l) (c := c) l.length 0 (by omega)
 rw [List.drop_zero] at this
 rw [← this]
 unfold firstIdx
 rw [bst_size, List.range_eq_range']
 cases (List.range' 0 l.length).find? fun i => (bst l)[i]! == c <;> rfl
theorem idxB_neg {c : UInt8} : ∀ {l : List UInt8} {i : Nat}, (0 ≤ idxB c l i ↔ c ∈ l)
 | [], i => by simp [idxB]
 | b :: l, i => by
  unfold idxB
  split
  ·rename_i h; simp [h]
  ·rename_i h; rw [idxB_neg]; simp [Ne.symm h]
end
end Go.Proofs.YtniolldgidgffaaGreatDoor

/- Grids, by value: new ones, what is covered, covering. -/
-- NEWM
namespace Go.Proofs.YtniolldgidgffaaGreatDoor
open Go Go.RowKit
set_option maxRecDepth 100000
abbrev oR (l : List Bool) : List (List CV) := l.map fun b => [B b]
abbrev gRow (g : Grd) (v : Value) : List CV := [I g.st, I g.x, I g.y, I g.w, I g.h, .r v (oR g.on)]
abbrev gV (pv v : Value) (g : Grd) : AV := .c (.p pv (gRow g v))
abbrev gB (st x y : Int) (w h b n : Nat) : OB := .box [.c (I st), .c (I x), .c (I y), .c (I w), .c (I h), .o b 0 n n]
abbrev gArr (n : Nat) (on : List Bool) : OB := .arr 4 1 n (oR on)
theorem cvg {g : AV → Value} {m : List (Option Nat)} {H : List OB} {fz : Bool} {st x y : Int} {w h b b' n : Nat} (hb : m[b']? = some (some b)) : CvL g m H fz [.c (I st), .c (I x), .c (I y), .c (I w), .c (I h), .o b 0 n n] [.c (I st), .c (I x), .c (I y), .c (I w), .c (I h), .o b' 0 n n] :=
 .cons (.c rfl) (.cons (.c rfl) (.cons (.c rfl) (.cons (.c rfl) (.cons (.c rfl) (.cons (.o hb rfl) .nil)))))
theorem u8_eq (b c : UInt8) : decide ((b.toNat : Int) = (c.toNat : Int)) = (b == c) := by
 rw [Bool.eq_iff_iff, decide_eq_true_iff, beq_iff_eq]
 constructor
 ·intro h; exact UInt8.toNat.inj (by omega)
 ·intro h; rw [h]
theorem u8_35 (b : UInt8) : decide ((b.toNat : Int) = 35) = (b == 35) := u8_eq b 35
structure GOk (g : Grd) : Prop where
 len : g.on.length = g.w * g.h
 w : g.w ≤ 1000
 h : g.h ≤ 1000
 x : -10000000 ≤ g.x ∧ g.x ≤ 10000000
 y : -10000000 ≤ g.y ∧ g.y ≤ 10000000
theorem GOk.n {g : Grd} (h : GOk g) : g.on.length ≤ 1000000 := by
 rw [h.len]
 exact Nat.le_trans (Nat.mul_le_mul h.w h.h) (by decide)
theorem oR_rep (n : Nat) : oR (List.replicate n false) = List.replicate n [B false] := by simp [oR]
theorem aret_p {fn : Func} {nl q b k j b' : Nat} {F : Fm} {H : List OB} {Qr : AV → List OB → Prop} (m : List (Option Nat)) (H' : (AV → Value) → List OB) (hr : fn.results = #[.tmp q]) (h : F.lookup q = some (.p b k j)) (hb : m[b']? = some (some b)) (hm : (m.filterMap id).Nodup) (hl : ∀ i, i < nl → m[i]? = some (some i)) (hH : ∀ g, CvH g m H true m (H' g)) (hq : ∀ g, Qr (.p b' k j) (H' g)) : ARet Tryz.prog fn nl Qr .ret F H :=
 aret_of m (fun _ => .p b' k j) H' (by rw [hr]; exact .tmp h .nil) hm hl (fun _ => .p hb) hH hq
theorem aret_fp {fn : Func} {nl q b : Nat} {F : Fm} {H : List OB} {Qr : AV → List OB → Prop} {l : List AV} (m : List (Option Nat)) (row : (AV → Value) → List CV) (H' : List OB) (hr : fn.results = #[.tmp q]) (h : F.lookup q = some (.p b 0 0)) (hH0 : H[b]? = some (.box l)) (hmb : m.contains (some b) = false) (hc : ∀ g, CvL g m H true l ((row g).map .c)) (hm : (m.filterMap id).Nodup) (hl : ∀ i, i < nl → m[i]? = some (some i)) (hH : ∀ g, CvH g m H true m H') (hq : ∀ (v : Value) g, Qr (.c (.p v (row g))) H') : ARet Tryz.prog fn nl Qr .ret F H :=
 aret_of (us := [.p b 0 0]) m (fun g => .c (.p (g (.p b 0 0)) (row g))) (fun _ => H') (by rw [hr]; exact .tmp h .nil) hm hl (fun g => .frzp rfl hH0 (by have := (hc g).both.1; simpa using this) (fun i x u hx hu => (hc g).both.2 i x (.c u) hx (by rw [List.getElem?_map, hu]; rfl)) hmb) hH (fun g => hq _ g)
theorem newgrid_v (st x y : Int) (w h : Nat) (hw : w ≤ 1000) (hh : h ≤ 1000) : ACalls Tryz.prog 121 [.c (I st), .c (I x), .c (I y), .c (I w), .c (I h)] [] fun u H => u = .p 0 0 0 ∧ H = [gB st x y w h 1 (w * h), gArr (w * h) (List.replicate (w * h) false)] := by
 have hm : w * h ≤ 1000000 := Nat.le_trans (Nat.mul_le_mul hw hh) (by decide)
 have hmi : (w : Int) * h = (w * h : Nat) := by simp
 have hmb : 0 ≤ (w : Int) * h ∧ (w : Int) * h ≤ 1000000 := by omega
 refine acalls_of (N := 22) Tryz.func121 rfl rfl (by simp) fun E hE => ?_
 refine WA ?_
 refine WA ?_
 exact aret_p [some 1, some 0] (fun _ => [gB st x y w h 1 (w * h), gArr (w * h) (List.replicate (w * h) false)]) rfl rfl rfl (by decide) (ZNK rfl) (fun _ => .box rfl (.cons (.c rfl) (.cons (.c rfl) (.cons (.c rfl) (.cons (.c rfl) (.cons (.c rfl) (.cons (.o rfl rfl) .nil)))))) (.arr rfl (by rw [oR_rep]) .nil)) (fun _ => ⟨rfl, rfl⟩)
theorem at_v (g : Grd) (pv v : Value) (a b : Int) (hg : GOk g) (ha : -100000000 ≤ a ∧ a ≤ 100000000) (hb : -100000000 ≤ b ∧ b ≤ 100000000) : ACalls Tryz.prog 97 [gV pv v g, .c (I a), .c (I b)] [] fun u H => u = .c (B (atG g a b)) ∧ H = [] := by
 obtain ⟨hlen, hw, hh, hx, hy⟩ := hg
 refine acalls_of (N := 57) Tryz.func97 rfl rfl (by simp) fun E hE => ?_
 refine WA ?_
 refine ZZ ?_
 refine aw_regionT [(0, none), (1, none), (2, none), (3, none), (4, none), (5, none), (6, none), (7, none), (8, none), (9, none), (10, none), (11, none), (12, none), (13, none)] hMixed (by kernel_rfl) ?_
 refine WQ ?_
 by_cases c1 : 0 ≤ a - g.x
 ·by_cases c2 : a - g.x < g.w
  ·by_cases c3 : 0 ≤ b - g.y
   ·by_cases c4 : b - g.y < g.h
    ·obtain ⟨i, hi⟩ : ∃ i : Nat, (i : Int) = b - g.y := ⟨(b - g.y).toNat, by omega⟩
     obtain ⟨k, hk⟩ : ∃ k : Nat, (k : Int) = a - g.x := ⟨(a - g.x).toNat, by omega⟩
     have hlt : i * g.w + k < g.on.length := by
      rw [hlen]
      have : i + 1 ≤ g.h := by omega
      have h2 := Nat.mul_le_mul_right g.w this
      rw [Nat.succ_mul, Nat.mul_comm g.h] at h2
      omega
     have hv : atG g a b = g.on[i * g.w + k] := by
      unfold atG
      rw [decide_eq_true c1, decide_eq_true c2, decide_eq_true c3, decide_eq_true c4, show (b - g.y).toNat = i by omega, show (a - g.x).toNat = k by omega, List.getD_eq_getElem?_getD, List.getElem?_eq_getElem hlt]
      rfl
     have hrow : (oR g.on)[i * g.w + k]? = some [B g.on[i * g.w + k]] := by rw [List.getElem?_map, List.getElem?_eq_getElem hlt]; rfl
     have hpe : (b - g.y) * (g.w : Int) = (i * g.w : Nat) := by rw [← hi]; simp
     have hpb : i * g.w ≤ 1000000 := Nat.le_trans (Nat.mul_le_mul (show i ≤ 1000 by omega) hw) (by decide)
     rw [hv]
     refine ZZ ?_
     refine aw_regionT [(0, none), (1, none), (2, none), (3, none), (4, none), (5, none), (6, none), (7, none), (8, none), (9, none), (10, none), (11, none), (12, none), (13, none), (14, none), (15, none), (16, none), (17, none), (18, none), (19, none), (20, none), (21, none), (22, none), (23, none), (24, none), (25, none), (26, none), (27, none), (28, none), (29, none), (30, none), (31, none), (32, none), (33, none), (34, none), (35, none), (36, none), (37, none), (38, none)] hMixed (by kernel_rfl) ?_
     refine WQ ?_
     exact aret_1 [] _ rfl rfl rfl (by decide) (ZNK rfl) (fun _ => .nil) ⟨rfl, rfl⟩
    ·have hv : atG g a b = false := by unfold atG; rw [decide_eq_false c4]; simp
     rw [hv]
     refine ZZ ?_
     refine aw_regionT [(0, none), (1, none), (2, none), (3, none), (4, none), (5, none), (6, none), (7, none), (8, none), (9, none), (10, none), (11, none), (12, none), (13, none), (14, none), (15, none), (16, none), (17, none), (18, none), (19, none), (20, none), (21, none), (22, none), (23, none), (24, none), (25, none), (26, none), (27, none), (28, none), (29, none), (30, none), (31, none), (32, none), (33, none), (34, none), (35, none), (36, none), (37, none), (38, none)] hMixed (by kernel_rfl) ?_
     refine WQ ?_
     exact aret_1 [] _ rfl rfl rfl (by decide) (ZNK rfl) (fun _ => .nil) ⟨rfl, rfl⟩
   ·have hv : atG g a b = false := by unfold atG; rw [decide_eq_false c3]; simp
    rw [hv]
    refine ZZ ?_
    refine aw_regionT [(0, none), (1, none), (2, none), (3, none), (4, none), (5, none), (6, none), (7, none), (8, none), (9, none), (10, none), (11, none), (12, none), (13, none), (14, none), (15, none), (16, none), (17, none), (18, none), (19, none), (20, none), (21, none), (22, none), (23, none), (24, none), (25, none), (26, none), (27, none), (28, none), (29, none), (30, none), (31, none), (32, none), (33, none), (34, none), (35, none), (36, none), (37, none), (38, none)] hMixed (by kernel_rfl) ?_
    refine WQ ?_
    exact aret_1 [] _ rfl rfl rfl (by decide) (ZNK rfl) (fun _ => .nil) ⟨rfl, rfl⟩
  ·have hv : atG g a b = false := by unfold atG; rw [decide_eq_false c2]; simp
   rw [hv]
   refine ZZ ?_
   refine aw_regionT [(0, none), (1, none), (2, none), (3, none), (4, none), (5, none), (6, none), (7, none), (8, none), (9, none), (10, none), (11, none), (12, none), (13, none), (14, none), (15, none), (16, none), (17, none), (18, none), (19, none), (20, none), (21, none), (22, none), (23, none), (24, none), (25, none), (26, none), (27, none), (28, none), (29, none), (30, none), (31, none), (32, none), (33, none), (34, none), (35, none), (36, none), (37, none), (38, none)] hMixed (by kernel_rfl) ?_
   refine WQ ?_
   exact aret_1 [] _ rfl rfl rfl (by decide) (ZNK rfl) (fun _ => .nil) ⟨rfl, rfl⟩
 ·have hv : atG g a b = false := by unfold atG; rw [decide_eq_false c1]; simp
  rw [hv]
  refine ZZ ?_
  refine aw_regionT [(0, none), (1, none), (2, none), (3, none), (4, none), (5, none), (6, none), (7, none), (8, none), (9, none), (10, none), (11, none), (12, none), (13, none), (14, none), (15, none), (16, none), (17, none), (18, none), (19, none), (20, none), (21, none), (22, none), (23, none), (24, none), (25, none), (26, none), (27, none), (28, none), (29, none), (30, none), (31, none), (32, none), (33, none), (34, none), (35, none), (36, none), (37, none), (38, none)] hMixed (by kernel_rfl) ?_
  refine WQ ?_
  exact aret_1 [] _ rfl rfl rfl (by decide) (ZNK rfl) (fun _ => .nil) ⟨rfl, rfl⟩
end Go.Proofs.YtniolldgidgffaaGreatDoor
