/- slices.Repeat of one path. -/
import Derived.Test.YtfilfijammemfaaGreatDoorQal
import Derived.Lib.Overlaps
import Derived.Lib.AppendZeros
import Derived.Lib.AppendZerosOnto
import Derived.Test.YtfilfijammemfaaGreatDoorQao
import Derived.Laws.Bits64b
import Derived.Test.YtfilfijammemfaaGreatDoorQbi
set_option linter.unusedSimpArgs false
set_option linter.unusedVariables false
namespace Go.Proofs.YtfilfijammemfaaGreatDoor
section
open Go Go.RowKit
section
variable {P : Program} {N : Nat} {E : Env} {F : Fm} {H : List OB} {o : Oper} {S : Nat → Prop} {ρ : List (Option Nat)} {a : Act} {w : World}
theorem flatP_len {sz : Nat} : ∀ l : List (List Value), (∀ r ∈ l, r.length = sz) → l.flatten.length = l.length * sz
 | [], _ => by simp
 | x :: l, h => by rw [List.flatten_cons, List.length_append, flatP_len l (fun r hr => h r (by simp [hr])), h x (by simp), List.length_cons, Nat.add_mul]; omega
theorem run_first {sz hi : Nat} {A : Option Addr} {m c cnt : Nat} {news : List (List Value)} (hsz : 0 < sz) (hr : Sl w 0 hi sz A news) (hl : ∀ r ∈ news, r.length = sz) (hc : cnt ≤ news.length) :
    (Builtin.firstCells sz cnt (.slice A m c)).run P w = .ok (news.take cnt).flatten.toArray w := by
 by_cases hn : news = []
 ·subst hn
  obtain rfl : cnt = 0 := by simpa using hc
  cases A with
  | none => rw [run_firstCells_none]; simp
  | some a => exact run_firstCells_some w sz 0 a m c [] (by simp) (fun j v h => by simp at h)
 ·obtain ⟨b, off, rfl, _, _, _, hcell⟩ := hr hn
  have hl' : ∀ r ∈ news.take cnt, r.length = sz := fun r hr => hl r (List.mem_of_mem_take hr)
  have hfl : (news.take cnt).flatten.length = cnt * sz := by rw [flatP_len _ hl', List.length_take, Nat.min_eq_left hc]
  refine run_firstCells_some w sz cnt _ m c _ hfl fun j u hj => ?_
  have hjl : j < cnt * sz := by
   rcases Nat.lt_or_ge j (cnt * sz) with h | h
   ·exact h
   ·rw [List.getElem?_eq_none (by omega)] at hj; cases hj
  have hk : j / sz < cnt := Nat.div_lt_of_lt_mul (by rw [Nat.mul_comm]; exact hjl)
  have hk2 : j / sz < (news.take cnt).length := by rw [List.length_take, Nat.min_eq_left hc]; exact hk
  have hr0 : (news.take cnt)[j / sz]? = some ((news.take cnt)[j / sz]'hk2) := List.getElem?_eq_getElem hk2
  have hjm : j % sz < sz := Nat.mod_lt _ hsz
  have hrl := hl' _ (List.getElem_mem hk2)
  have hu0 : ((news.take cnt)[j / sz]'hk2)[j % sz]? = some (((news.take cnt)[j / sz]'hk2)[j % sz]'(by omega)) := List.getElem?_eq_getElem (by omega)
  have hf := flatten_at _ hl' _ _ hr0 _ _ hu0
  have hdm : j / sz * sz + j % sz = j := by rw [Nat.mul_comm]; exact Nat.div_add_mod j sz
  rw [hdm, hj] at hf
  injection hf with hf
  have hr1 : news[j / sz]? = some ((news.take cnt)[j / sz]'hk2) := by
   rw [List.getElem?_take, if_pos hk] at hr0; exact hr0
  have := hcell _ _ hr1 _ _ hu0
  rw [← hf] at this
  rw [show off + j / sz * sz + j % sz = off + j from by omega] at this
  have e : (⟨b, off, none⟩ : Addr).add j = ⟨b, off + j, none⟩ := by simp [Addr.add]
  rw [e]; exact this
theorem set_same {b : Nat} {ob : OB} (h : H[b]? = some ob) : H.set b ob = H := by
 refine List.ext_getElem? fun i => ?_
 rw [List.getElem?_set]
 split
 ·rename_i hbi; subst hbi
  split
  ·exact h.symm
  ·rename_i hl; rw [List.getElem?_eq_none (by omega)] at h; cases h
 ·rfl
theorem ef_copyg {t t' e : TypeId} {sz d : Nat} {x y : Operand} {b k n c cap m : Nat} {rows news : List (List CV)} (ho : o.op = .call { callee := .builtin .copy, args := #[x, y], argTypes := #[t, t'] }) (hd : o.dst = some d) (hN : d < N) (hE : ElemTy P t e sz)
    (hx : ev F x = some (.o b k n c)) (hH : H[b]? = some (.arr e sz cap rows)) (hk : k ≤ rows.length) (hm : min m n = news.length)
    (hsr : ∀ S ρ a w, R N E S ρ F H a w → ∃ A c', a.eval y = .slice A m c' ∧ Sl w 0 w.heap.size sz A (toV news) ∧ ∀ row ∈ news, row.length = sz ∧ ∀ u ∈ row, Good w S u ∧ u.den.oneCell' = true) :
    Ef P N E o F H fun F' H' => F' = (d, .c (.s (.int .i64 (news.length : Nat)))) :: F ∧ H' = H.set b (.arr e sz cap (rows.take k ++ news ++ rows.drop (k + news.length))) := by
 refine ef_of (x := .c (.s (.int .i64 (news.length : Nat)))) hd hN ⟨rfl, rfl⟩ fun S ρ a w hR => ?_
 obtain ⟨g1, g2⟩ := hR.ev hx
 obtain ⟨A, c', g3, hsl, hnews⟩ := hsr S ρ a w hR
 have hv := g3
 obtain ⟨inf, z, hi, hz, hs, hby, hzs⟩ := hE.hi
 have hu' : (underlying t).run P w = .ok (.slice e) w := by unfold underlying; simp [hE.ht]
 have hsize : (sizeOf e).run P w = .ok sz w := by simp [sizeOf, typeInfo, hi, hs]
 have hszb : szAt H b = sz := by unfold szAt; rw [hH]; rfl
 have hcp : capAt H b = cap := by unfold capAt; rw [hH]; rfl
 have hnl : ∀ r ∈ toV news, r.length = sz := toV_len fun row hr => (hnews row hr).1
 have hmin : Nat.min m n ≤ (toV news).length := by simp only [toV, List.length_map]; exact Nat.le_of_eq hm
 have hfirst := run_first (P := P) (m := m) (c := c') hE.hsz hsl hnl hmin
 have fin : ∀ w', (∀ A', (AV.o b k n c).den ρ H = .slice A' n c → (match A' with | some q => storeCells q ((toV news).take (Nat.min m n)).flatten | none => pure ()).run P w = .ok () w') → (execOp a.eval o).run P w = .ok (.value (goInt (Nat.min m n : Nat))) w' := fun w' hst => by
  unfold execOp
  simp only [ho, resolve, invoke, builtin, Sem.run_bind, Sem.run_pure, Result.andThen_ok, List.map_toArray, List.map_cons, List.map_nil, g1, g3]
  have hA : ∃ A', (AV.o b k n c).den ρ H = .slice A' n c := ⟨_, rfl⟩
  obtain ⟨A', hA'⟩ := hA
  have hst' := hst A' hA'
  rw [hA']
  simp only [Builtin.copy_, Sem.run_bind, Sem.run_pure, List.getElem?_toArray, List.getElem?_cons_zero, List.getElem?_cons_succ, hu', Result.andThen_ok, Builtin.lenOf, hsize, hfirst]
  cases A' with
  | none => simp only [Sem.run_pure, Result.andThen_ok]; obtain rfl : w = w' := by simpa using hst'
            rfl
  | some q => simp only at hst'; simp only [Sem.run_bind, hst', Result.andThen_ok, Sem.run_pure]
 have hmn : Nat.min m n = news.length := hm
 have htv : (toV news).take (Nat.min m n) = toV news := List.take_of_length_le (by rw [hmn]; simp [toV])
 rw [hmn] at fin
 rw [hmn] at htv
 rw [htv] at fin
 cases g2 with
 | o q0 q1 q2 q3 =>
  rw [hcp] at q2
  cases hB : atB ρ b with
  | none =>
   obtain ⟨rfl, rfl⟩ := q3 hB
   have hw0 : (execOp a.eval o).run P w = .ok (.value (goInt (news.length : Nat))) w := fin w fun A' hA' => by
    rw [AV.den, hB] at hA'
    injection hA' with hA' _ _
    subst hA'
    rfl
   refine ⟨S, ρ, w, ?_, ?_, .c (.s _)⟩
   ·rw [hw0]; rfl
   ·have : rows.take k ++ news ++ rows.drop (k + news.length) = rows := by
     obtain rfl : news = [] := List.eq_nil_of_length_eq_zero (by omega)
     simp
    rw [this, set_same hH]; exact hR
  | some B =>
   rcases hR.hp.blk _ _ hH with ⟨h0, _, _⟩ | ⟨B', cs, hB', hh, hcs, hmx, hrl, hrow, hcell⟩
   ·rw [hB] at h0; cases h0
   obtain rfl : B = B' := by rw [hB] at hB'; injection hB'
   have hns : ∀ r ∈ toV (news), r.length = sz := toV_len fun row hr => (hnews row hr).1
   have hfl : (toV (news)).flatten.length = news.length * sz := by rw [flatP_len _ hns]; simp [toV]
   have hfit : k * sz + (toV (news)).flatten.length ≤ cs.size := by
    rw [hfl, hcs, ← Nat.add_mul]; exact Nat.mul_le_mul_right sz (by omega)
   have hone : ∀ u ∈ (toV (news)).flatten, u.oneCell' = true := fun u hu => by
    obtain ⟨r, hr, hur⟩ := List.mem_flatten.1 hu
    obtain ⟨row, hrow', rfl⟩ := List.mem_map.1 hr
    obtain ⟨y, hy', rfl⟩ := List.mem_map.1 hur
    exact ((hnews row hrow').2 y hy').2
   have hst := zR (P := P) (off := k * sz) (toV (news)).flatten 0 w _ hh (by omega) hone
   rw [Nat.add_zero] at hst
   have hex := fin (zr w B (.cells (setAll cs (k * sz) (toV (news)).flatten) e (0, 0))) fun A' hA' => by
    rw [AV.den, hB, hszb] at hA'
    simp only [Option.map_some] at hA'
    injection hA' with hA' _ _
    subst hA'
    exact hst
   have hm := mo_put hR.hp hB (.cells (setAll cs (k * sz) (toV (news)).flatten) e (0, 0))
   refine ⟨S, ρ, zr w B (.cells (setAll cs (k * sz) (toV (news)).flatten) e (0, 0)), ?_, ?_, .c (.s _)⟩
   ·rw [hex]; rfl
   ·have hlk : (rows.take k).length = k := by rw [List.length_take, Nat.min_eq_left hk]
    have hlen : (rows.take k ++ news ++ rows.drop (k + news.length)).length ≤ cap := by simp only [List.length_append, List.length_drop, hlk]; omega
    have hmem : ∀ r ∈ rows.take k ++ news ++ rows.drop (k + news.length), r ∈ rows ∨ r ∈ news := fun r hr => by
     rcases List.mem_append.1 hr with hr | hr
     ·rcases List.mem_append.1 hr with hr | hr
      ·exact .inl (List.mem_of_mem_take hr)
      ·exact .inr hr
     ·exact .inl (List.mem_of_mem_drop hr)
    refine R.set (ob := .arr e sz cap rows) (ob' := .arr e sz cap (rows.take k ++ news ++ rows.drop (k + news.length))) (cob := .cells (setAll cs (k * sz) (toV (news)).flatten) e (0, 0)) hR hH hB rfl rfl (fun _ => rfl) (zr1 _ _) (.inr ⟨B, _, rfl, zU1 hh, by rw [zq1 0]; exact hcs, hmx, hlen, fun r hr => ?_, fun k' j' r u hk' hj' => ?_⟩)
    ·rcases hmem r hr with h | h
     ·exact ⟨(hrow r h).1, fun u hu => ⟨((hrow r h).2 u hu).1.mono hm, ((hrow r h).2 u hu).2⟩⟩
     ·exact ⟨(hnews r h).1, fun u hu => ⟨((hnews r h).2 u hu).1.mono hm, ((hnews r h).2 u hu).2⟩⟩
    ·have hj : j' < sz := by
      have hr' : r.length = sz := by
       rcases hmem r (List.mem_of_getElem? hk') with h | h
       ·exact (hrow r h).1
       ·exact (hnews r h).1
      rw [← hr']; exact (List.getElem?_eq_some_iff.1 hj').1
     rw [zd1 _ _ _ _ hfit, hfl]
     rw [List.getElem?_append, List.getElem?_append] at hk'
     simp only [List.length_append, hlk] at hk'
     by_cases h1 : k' < k
     ·rw [if_pos (by omega), if_pos h1, List.getElem?_take, if_pos h1] at hk'
      rw [if_neg ?_]
      ·exact hcell k' j' r u hk' hj'
      ·rintro ⟨w1, _⟩
       have : (k' + 1) * sz ≤ k * sz := Nat.mul_le_mul_right sz (by omega)
       rw [Nat.add_mul] at this
       omega
     ·by_cases h2 : k' < k + news.length
      ·rw [if_pos h2, if_neg h1] at hk'
       have w1 : k * sz ≤ k' * sz := Nat.mul_le_mul_right sz (by omega)
       have w2 : (k' + 1) * sz ≤ (k + news.length) * sz := Nat.mul_le_mul_right sz (by omega)
       rw [Nat.add_mul, Nat.add_mul k] at w2
       rw [if_pos ⟨by omega, by omega⟩]
       have hr2 : (toV (news))[k' - k]? = some (r.map CV.den) := by unfold toV; rw [List.getElem?_map, hk']; rfl
       have hu2 : (r.map CV.den)[j']? = some u.den := by rw [List.getElem?_map, hj']; rfl
       have := flatten_at _ hns _ _ hr2 _ _ hu2
       rw [Nat.sub_mul] at this
       rw [show k' * sz + j' - k * sz = k' * sz - k * sz + j' from by omega]
       exact this
      ·rw [if_neg h2, List.getElem?_drop, show k + news.length + (k' - (k + news.length)) = k' from by omega] at hk'
       rw [if_neg ?_]
       ·exact hcell k' j' r u hk' hj'
       ·rintro ⟨_, w2⟩
        have : (k + news.length) * sz ≤ k' * sz := Nat.mul_le_mul_right sz (by omega)
        rw [Nat.add_mul] at this
        omega
theorem ef_copyo {t t' e e2 : TypeId} {sz d : Nat} {x y : Operand} {b k n c cap b2 k2 m2 c2 cap2 : Nat} {rows rows2 news R2 : List (List CV)} (ho : o.op = .call { callee := .builtin .copy, args := #[x, y], argTypes := #[t, t'] }) (hd : o.dst = some d) (hN : d < N) (hE : ElemTy P t e sz)
    (hx : ev F x = some (.o b k n c)) (hH : H[b]? = some (.arr e sz cap rows)) (hk : k ≤ rows.length) (hy : ev F y = some (.o b2 k2 m2 c2)) (hH2 : H[b2]? = some (.arr e2 sz cap2 rows2)) (hn : (rows2.drop k2).take (min m2 n) = news) (hl : news.length = min m2 n) (hR2 : rows.take k ++ news ++ rows.drop (k + news.length) = R2) :
    Ef P N E o F H fun F' H' => F' = (d, .c (.s (.int .i64 (news.length : Nat)))) :: F ∧ H' = H.set b (.arr e sz cap R2) := by
 subst hR2
 refine ef_copyg (m := m2) ho hd hN hE hx hH hk hl.symm fun S ρ a w hR => ?_
 obtain ⟨g1, g2⟩ := hR.ev hy
 cases g2 with
 | o q0 q1 q2 q3 =>
  have hw : WF w S ρ H (.o b2 k2 (min m2 n) c2) := .o q0 (by omega) q2 (fun h => by have := q3 h; omega)
  obtain ⟨A, c', hv, hsl, hnews⟩ := hR.src hw (Src.own hH2 hn hl)
  rw [AV.den] at hv
  injection hv with hA _ _
  exact ⟨A, c2, by rw [g1, AV.den, hA], hsl, hnews⟩
end
end
section
open Go Go.RowKit
section
variable {P : Program} {N : Nat} {E : Env} {F : Fm} {H : List OB} {o : Oper} {S : Nat → Prop} {ρ : List (Option Nat)} {a : Act} {w : World}
end
end
section
open Go Go.RowKit
section
variable {P : Program} {N : Nat} {E : Env} {F : Fm} {H : List OB} {o : Oper} {S : Nat → Prop} {ρ : List (Option Nat)} {a : Act} {w : World}
end
end
section
open Go Go.RowKit
section
variable {β : Type} {r : List β} {y z : β} {i : Nat}
end
end
section
open Go Go.RowKit
set_option maxRecDepth 100000
section
variable {P : Program} {N : Nat} {E : Env} {F : Fm} {H : List OB} {o : Oper} {t yt : TypeId} {x y : Operand}
theorem rd_conv {s : TypeId} {k k' : IntKind} {n r : Int} (hs : (P.underlying s).isSome = true) (ht : P.underlying t = some (.int k')) (ho : o.op = .convert s t x) (hx : ev F x = some (.c (.s (.int k n)))) (hw : k'.wrap n = r) : Rd P N E o F H (.c (.s (.int k' r))) := fun S ρ a w hR => by
 have h1 := (hR.ev hx).1
 simp only [AV.den, CV.den] at h1
 have hk : P.intKind t = k' := by unfold Program.intKind; rw [ht]
 refine ⟨?_, .c (.s _)⟩
 have := run_convert_int (P := P) w s t k n hs (by rw [hk]; exact ht)
 rw [hk, hw] at this
 simp only [execOp, ho, h1]
 rw [Sem.run_bind, this]
 rfl
theorem rd_uand {m n : Nat} (ho : o.op = .binOp .and t x y yt) (hx : ev F x = some (.c (.s (.int .u64 m)))) (hy : ev F y = some (.c (.s (.int .u64 n)))) (hm : m < 4294967296) (hn : n = 4294967295) : Rd P N E o F H (.c (.s (.int .u64 m))) :=
 rd_int ho hx hy (by simp) fun w => by
  subst hn
  have h := bits_and_u64_nat m 4294967295 (by omega) (by omega)
  have h2 : m &&& 4294967295 = m := by
   rw [show (4294967295 : Nat) = 2 ^ 32 - 1 from rfl, Nat.and_two_pow_sub_one_eq_mod, Nat.mod_eq_of_lt (by omega)]
  rw [h2] at h
  exact congrArg (fun z => Result.ok (Value.int .u64 z) w) h
theorem rd_umul {m n r : Nat} (ho : o.op = .binOp .mul t x y yt) (hx : ev F x = some (.c (.s (.int .u64 m)))) (hy : ev F y = some (.c (.s (.int .u64 n)))) (hr : m * n = r) (hl : r < 18446744073709551616) : Rd P N E o F H (.c (.s (.int .u64 r))) :=
 rd_int ho hx hy (by simp) fun w => by
  subst hr
  simp only [Op.intArith, Sem.run_pure, IntKind.wrap_u64]
  rw [← Int.natCast_mul]
  congr 3
  omega
theorem rd_uadd {m n r : Nat} (ho : o.op = .binOp .add t x y yt) (hx : ev F x = some (.c (.s (.int .u64 m)))) (hy : ev F y = some (.c (.s (.int .u64 n)))) (hr : m + n = r) (hl : r < 18446744073709551616) : Rd P N E o F H (.c (.s (.int .u64 r))) :=
 rd_int ho hx hy (by simp) fun w => by
  subst hr
  simp only [Op.intArith, Sem.run_pure, IntKind.wrap_u64]
  congr 3
  omega
theorem rd_ushr {m : Nat} (ho : o.op = .binOp .shr t x y yt) (hx : ev F x = some (.c (.s (.int .u64 m)))) (hy : ev F y = some (.c (.s (.int .u64 32)))) (hl : m < 4294967296) : Rd P N E o F H (.c (.s (.int .u64 (0 : Nat)))) :=
 zX1 ho hx hy (fun _ _ => rfl) (fun _ _ => rfl) fun w => by
  simp [eqGuard, binOp, Op.shift, CV.den]
  show (m : Int).fdiv (2 ^ 32) = 0
  rw [Int.fdiv_eq_ediv_of_nonneg _ (by decide)]
  omega
end
theorem mul64_a (n : Nat) (h : n < 4294967296) : ACalls Tryz.prog 165 [.c (.s (.int .u64 (1 : Nat))), .c (.s (.int .u64 n))] [] fun u H => u = .t [.c (.s (.int .u64 (0 : Nat))), .c (.s (.int .u64 n))] ∧ H = [] := by
 refine ze (N := 51) Tryz.func165 rfl rfl (by simp) fun E hE => ?_
 refine WA ?_
 refine ZR ?_
 refine WX1 ?_
 refine ZA (rd_uand rfl rfl rfl (by omega) rfl) ?_
 refine WE ?_
 refine ZR ?_
 refine WX1 ?_
 refine ZA (rd_ushr rfl rfl rfl (by omega)) ?_
 refine WE ?_
 refine ZR ?_
 refine WX1 ?_
 refine ZA (rd_uand rfl rfl rfl (by omega) rfl) ?_
 refine WE ?_
 refine ZR ?_
 refine WX1 ?_
 refine ZA (rd_ushr rfl rfl rfl (by omega)) ?_
 refine WE ?_
 refine ZR ?_
 iterate 2 refine WX1 ?_
 refine ZA (rd_umul (r := n) rfl rfl rfl (by simp) (by omega)) ?_
 refine WE ?_
 refine ZR ?_
 iterate 2 refine WX1 ?_
 refine ZA (rd_umul (r := 0) rfl rfl rfl (by simp) (by omega)) ?_
 refine WX1 ?_
 refine ZA (rd_ushr rfl rfl rfl (by omega)) ?_
 refine ZA (rd_uadd (r := 0) rfl rfl rfl (by simp) (by omega)) ?_
 refine WE ?_
 refine ZR ?_
 refine WX1 ?_
 refine ZA (rd_uand rfl rfl rfl (by omega) rfl) ?_
 refine WE ?_
 refine ZR ?_
 refine WX1 ?_
 refine ZA (rd_ushr rfl rfl rfl (by omega)) ?_
 refine WE ?_
 refine ZR ?_
 iterate 3 refine WX1 ?_
 refine ZA (rd_umul (r := 0) rfl rfl rfl (by simp) (by omega)) ?_
 refine ZA (rd_uadd (r := 0) rfl rfl rfl (by simp) (by omega)) ?_
 refine WE ?_
 refine ZR ?_
 iterate 2 refine WX1 ?_
 refine ZA (rd_umul (r := 0) rfl rfl rfl (by simp) (by omega)) ?_
 refine WX1 ?_
 refine ZA (rd_uadd (r := 0) rfl rfl rfl (by simp) (by omega)) ?_
 refine WX1 ?_
 refine ZA (rd_ushr rfl rfl rfl (by omega)) ?_
 refine ZA (rd_uadd (r := 0) rfl rfl rfl (by simp) (by omega)) ?_
 refine WE ?_
 refine ZR ?_
 iterate 2 refine WX1 ?_
 refine ZA (rd_umul (r := n) rfl rfl rfl (by simp) (by omega)) ?_
 refine WE ?_
 exact aret_2 [] _ rfl rfl rfl rfl rfl (by decide) (ZNK rfl) (fun _ => .nil) ⟨rfl, rfl⟩
theorem mul_a (n : Nat) (h : n < 4294967296) : ACalls Tryz.prog 119 [.c (.s (.int .u64 (1 : Nat))), .c (.s (.int .u64 n))] [] fun u H => u = .t [.c (.s (.int .u64 (0 : Nat))), .c (.s (.int .u64 n))] ∧ H = [] := by
 refine ze (N := 30) Tryz.func119 rfl rfl (by simp) fun E hE => ?_
 refine WA ?_
 refine zd rfl ?_
 refine WR ?_
 refine zf rfl (za false (fun _ => mul64_a n h) rfl .fn rfl (by decide) (by kernel_rfl) rfl (fun _ => C0 rfl) (by simp)) ?_
 rintro _ _ ⟨_, _, _, ⟨rfl, rfl⟩, hF, hH⟩
 (refine NST hF hH ?_; clear hF hH; rintro rfl rfl)
 refine WE ?_
 refine WA ?_
 exact aret_2 [] _ rfl rfl rfl rfl rfl (by decide) (ZNK rfl) (fun _ => .nil) ⟨rfl, rfl⟩
theorem wrap_i (n : Nat) (h : n ≤ 1000000) : IntKind.i64.wrap (n : Int) = n := by rw [IntKind.wrap_i64]; omega
theorem wrap_u (n : Nat) (h : n ≤ 1000000) : IntKind.u64.wrap (n : Int) = n := by rw [IntKind.wrap_u64]; omega
end
section
open Go Go.RowKit
set_option maxRecDepth 100000
abbrev rwP (z : Value) : List CV := [.r z (sR [(0, 0)]), B false]
abbrev zrP : List CV := [.r (.slice none 0 0) [], B false]
def rP (z : Value) (n m : Nat) : List (List CV) := List.replicate m (rwP z) ++ List.replicate (n - m) zrP
theorem rP_len (z : Value) {n m : Nat} (h : m ≤ n) : (rP z n m).length = n := by simp [rP]; omega
theorem rP_zero (z : Value) (n : Nat) : rP z n 0 = List.replicate n zrP := by simp [rP]
theorem rP_all (z : Value) (n : Nat) : rP z n n = List.replicate n (rwP z) := by simp [rP]
theorem rP_take {z : Value} {n m k : Nat} (h : k ≤ m) : ((rP z n m).drop 0).take k = List.replicate k (rwP z) := by
 rw [List.drop_zero, rP, List.take_append_of_le_length (by simpa using h), List.take_replicate, Nat.min_eq_left h]
theorem rP_step {z : Value} {n m k : Nat} (h : m + k ≤ n) : (rP z n m).take (0 + m) ++ List.replicate k (rwP z) ++ (rP z n m).drop (0 + m + (List.replicate k (rwP z)).length) = rP z n (m + k) := by
 rw [Nat.zero_add, List.length_replicate]
 unfold rP
 rw [List.take_append_of_le_length (by simp), List.take_of_length_le (by simp), List.drop_append, List.drop_of_length_le (by simp), List.nil_append, List.length_replicate, List.drop_replicate, List.replicate_append_replicate]
 congr 2
 omega
theorem repeatP_a (z : Value) (n : Nat) (h1 : 1 ≤ n) (hn : n ≤ 1000000) : ACalls Tryz.prog 74 [.o 0 0 1 1, .c (I n)] [.arr 54 2 1 [rwP z]] fun u H => u = .o 1 0 n n ∧ H = [.arr 54 2 1 [rwP z], .arr 54 2 n (List.replicate n (rwP z))] := by
 refine ze (N := 48) Tryz.func74 rfl rfl (by simp) fun E hE => ?_
 refine WA ?_
 refine WA ?_
 refine zd rfl ?_
 refine ZZ ?_
 refine ZR ?_
 iterate 2 refine WX1 ?_
 refine ZA (rd_conv (r := ((1 : Nat) : Int)) (by kernel_rfl) Tryz.underlying208 rfl rfl rfl) ?_
 refine WX1 ?_
 refine ZA (rd_conv (r := (n : Int)) (by kernel_rfl) Tryz.underlying208 rfl rfl (wrap_u n hn)) ?_
 refine zf rfl (za false (fun _ => mul_a n (by omega)) rfl .fn rfl (by decide) (by kernel_rfl) rfl (fun _ => C0 rfl) (by simp)) ?_
 rintro _ _ ⟨_, _, _, ⟨rfl, rfl⟩, hF, hH⟩
 (refine NST hF hH ?_; clear hF hH; rintro rfl rfl)
 refine WE ?_
 refine WA ?_
 refine zd rfl ?_
 refine ZZ ?_
 refine ZR ?_
 refine WX1 ?_
 refine ZA (rd_conv (r := (n : Int)) (by kernel_rfl) Tryz.underlying3 rfl rfl (wrap_i n hn)) ?_
 refine zf rfl (Zmak (l := n) (c := n) Tryz.underlying33 (KI (t := 54) rfl)) ?_
 rintro _ _ ⟨rfl, rfl⟩
 refine WE ?_
 have hp : 1 ≤ n := h1
 refine ZR ?_
 iterate 2 refine WX1 ?_
 refine zf rfl (ef_copyo (news := List.replicate 1 (rwP z)) (R2 := rP z n 1) rfl rfl (by decide) (KA (t := 33) rfl) rfl rfl (by simp) rfl rfl (by rw [Nat.min_eq_left (by omega)]; rfl) (by rw [Nat.min_eq_left (by omega)]; rfl) (by rw [← rP_zero z]; exact rP_step (m := 0) (by omega))) ?_
 rintro _ _ ⟨hF, hH⟩
 simp only [List.set_cons_zero, List.set_cons_succ, List.cons_append, List.nil_append] at hH
 subst hF; subst hH
 refine WE ?_
 refine zk (fun q F H => ∃ m : Nat, q + m = n ∧ 1 ≤ m ∧ F = [(7, .o 1 0 n n), (8, .c (I m))] ∧ H = [.arr 54 2 1 [rwP z], .arr 54 2 n (rP z n m)]) ?_ ?_
 ·refine zh [some 0, some 1] (fun _ => [(7, .o 1 0 n n), (8, .c (I (1 : Nat)))]) (fun _ => [.arr 54 2 1 [rwP z], .arr 54 2 n (rP z n 1)]) (by decide) (ZNL hE) ZCF ZCH (fun _ => ⟨n - 1, 1, by omega, by omega, rfl, rfl⟩)
 rintro q F H ⟨m, hq, hm1, rfl, rfl⟩
 refine WA ?_
 refine zl rfl (fun hlt => ?_) (fun hge => ?_)
 ·refine ZZ ?_
  refine zg [(0, none), (1, none), (2, none), (3, none), (4, none), (5, none), (6, none), (7, some [0]), (8, none), (9, none)] zn (by kernel_rfl) ?_
  iterate 3 refine WX2 ?_
  refine ZT rfl (rd_slice (l := m) rfl (KE (t := 33) rfl) rfl rfl (.inr ⟨_, _, _, rfl, rfl, rfl⟩) (.inl ⟨rfl, rfl⟩) (by omega) (by omega) (by omega)) ?_
  iterate 2 refine WX2 ?_
  refine ZT rfl (rd_slice (l := 0) (h := m) rfl (KE (t := 33) rfl) rfl rfl (.inl ⟨rfl, rfl⟩) (.inr ⟨_, _, _, rfl, rfl, rfl⟩) (by omega) (by omega) (by omega)) ?_
  refine zY rfl rfl (ef_copyo (news := List.replicate (min m (n - m)) (rwP z)) (R2 := rP z n (m + min m (n - m))) rfl rfl (by decide) (KA (t := 33) rfl) rfl rfl (by rw [rP_len _ (by omega)]; omega) rfl rfl (rP_take (by omega)) (by simp) (rP_step (by omega))) ?_
  rintro _ _ ⟨hF, hH⟩
  simp only [List.set_cons_zero, List.set_cons_succ, List.cons_append, List.nil_append] at hH
  subst hF; subst hH
  refine ⟨zj (by first | exact zu rfl rfl rfl (zB rfl rfl) rfl) (zm), ?_⟩
  refine WQ ?_
  refine zh [some 0, some 1] (fun _ => [(7, .o 1 0 n n), (8, .c (I (m + min m (n - m) : Nat)))]) (fun _ => [.arr 54 2 1 [rwP z], .arr 54 2 n (rP z n (m + min m (n - m)))]) (by decide) (ZNL hE) (fun _ => .cons rfl (.o rfl rfl) (.cons rfl (.c (by simp only [List.length_replicate]; rw [IntWalk.wrap64_in _ (by omega)]; simp)) .nil)) ZCH (fun _ => ?_)
  exact ⟨n - (m + min m (n - m)), by omega, m + min m (n - m), by omega, by omega, rfl, rfl⟩
 refine WA ?_
 obtain rfl : m = n := by omega
 exact aret_o [some 0, some 1] (fun _ => [.arr 54 2 1 [rwP z], .arr 54 2 m (rP z m m)]) rfl rfl rfl rfl rfl (by decide) (ZNK rfl) ZCH (fun _ => ⟨rfl, by rw [rP_all]⟩)
end
end Go.Proofs.YtfilfijammemfaaGreatDoor
