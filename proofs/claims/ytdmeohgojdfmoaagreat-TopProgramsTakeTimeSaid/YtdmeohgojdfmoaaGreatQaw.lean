/- append of zeros behind some rows, where there is no room. -/
import Derived.Test.YtdmeohgojdfmoaaGreatQap
import Derived.Lib.Overlaps
import Derived.Lib.AppendZeros
import Derived.Lib.AppendZerosOnto
set_option linter.unusedSimpArgs false
set_option linter.unusedVariables false
/- copy into an array of the call's own. -/
namespace Go.Proofs.YtdmeohgojdfmoaaGreat
open Go Go.RowKit
section
variable {P : Program} {N : Nat} {E : Env} {F : Fm} {H : List OB} {o : Oper} {S : Nat → Prop} {ρ : List (Option Nat)} {a : Act} {w : World}
theorem flat_len {sz : Nat} : ∀ l : List (List Value), (∀ r ∈ l, r.length = sz) → l.flatten.length = l.length * sz
  | [], _ => by simp
  | x :: l, h => by rw [List.flatten_cons, List.length_append, flat_len l (fun r hr => h r (by simp [hr])), h x (by simp), List.length_cons, Nat.add_mul]; omega
/-- The first rows of a source, as cells. -/
theorem run_first {sz hi : Nat} {A : Option Addr} {m c cnt : Nat} {news : List (List Value)} (hsz : 0 < sz) (hr : Sl w 0 hi sz A news) (hl : ∀ r ∈ news, r.length = sz) (hc : cnt ≤ news.length) :
    (Builtin.firstCells sz cnt (.slice A m c)).run P w = .ok (news.take cnt).flatten.toArray w := by
  by_cases hn : news = []
  · subst hn
    obtain rfl : cnt = 0 := by simpa using hc
    cases A with
    | none => rw [run_firstCells_none]; simp
    | some a => exact run_firstCells_some w sz 0 a m c [] (by simp) (fun j v h => by simp at h)
  · obtain ⟨b, off, rfl, _, _, _, hcell⟩ := hr hn
    have hl' : ∀ r ∈ news.take cnt, r.length = sz := fun r hr => hl r (List.mem_of_mem_take hr)
    have hfl : (news.take cnt).flatten.length = cnt * sz := by rw [flat_len _ hl', List.length_take, Nat.min_eq_left hc]
    refine run_firstCells_some w sz cnt _ m c _ hfl fun j u hj => ?_
    have hjl : j < cnt * sz := by
      rcases Nat.lt_or_ge j (cnt * sz) with h | h
      · exact h
      · rw [List.getElem?_eq_none (by omega)] at hj; cases hj
    have hk : j / sz < cnt := Nat.div_lt_of_lt_mul (by rw [Nat.mul_comm]; exact hjl)
    have hk2 : j / sz < (news.take cnt).length := by rw [List.length_take, Nat.min_eq_left hc]; exact hk
    have hr0 : (news.take cnt)[j / sz]? = some ((news.take cnt)[j / sz]'hk2) := List.getElem?_eq_getElem hk2
    have hjm : j % sz < sz := Nat.mod_lt _ hsz
    have hrl := hl' _ (List.getElem_mem hk2)
    have hu0 : ((news.take cnt)[j / sz]'hk2)[j % sz]? = some (((news.take cnt)[j / sz]'hk2)[j % sz]'(by omega)) := List.getElem?_eq_getElem (by omega)
    have hf := flatten_at _ hl' _ _ hr0 _ _ hu0
    have hdm : j / sz * sz + j % sz = j := by rw [Nat.mul_comm]; exact Nat.div_add_mod j sz
    rw [hdm, hj] at hf
    injection hf with hf
    have hr1 : news[j / sz]? = some ((news.take cnt)[j / sz]'hk2) := by
      rw [List.getElem?_take, if_pos hk] at hr0; exact hr0
    have := hcell _ _ hr1 _ _ hu0
    rw [← hf] at this
    rw [show off + j / sz * sz + j % sz = off + j from by omega] at this
    have e : (⟨b, off, none⟩ : Addr).add j = ⟨b, off + j, none⟩ := by simp [Addr.add]
    rw [e]; exact this
theorem set_same {b : Nat} {ob : OB} (h : H[b]? = some ob) : H.set b ob = H := by
  refine List.ext_getElem? fun i => ?_
  rw [List.getElem?_set]
  split
  · rename_i hbi; subst hbi
    split
    · exact h.symm
    · rename_i hl; rw [List.getElem?_eq_none (by omega)] at h; cases h
  · rfl
theorem ef_copyg {t t' e : TypeId} {sz d : Nat} {x y : Operand} {b k n c cap m : Nat} {rows news : List (List CV)} (ho : o.op = .call { callee := .builtin .copy, args := #[x, y], argTypes := #[t, t'] }) (hd : o.dst = some d) (hN : d < N) (hE : ElemTy P t e sz)
    (hx : ev F x = some (.o b k n c)) (hH : H[b]? = some (.arr e sz cap rows)) (hk : k ≤ rows.length) (hm : min m n = news.length)
    (hsr : ∀ S ρ a w, R N E S ρ F H a w → ∃ A c', a.eval y = .slice A m c' ∧ Sl w 0 w.heap.size sz A (toV news) ∧ ∀ row ∈ news, row.length = sz ∧ ∀ u ∈ row, Good w S u ∧ u.den.oneCell' = true) :
    Ef P N E o F H fun F' H' => F' = (d, .c (.s (.int .i64 (news.length : Nat)))) :: F ∧ H' = H.set b (.arr e sz cap (rows.take k ++ news ++ rows.drop (k + news.length))) := by
  refine ef_of (x := .c (.s (.int .i64 (news.length : Nat)))) hd hN ⟨rfl, rfl⟩ fun S ρ a w hR => ?_
  obtain ⟨g1, g2⟩ := hR.ev hx
  obtain ⟨A, c', g3, hsl, hnews⟩ := hsr S ρ a w hR
  have hv := g3
  obtain ⟨inf, z, hi, hz, hs, hby, hzs⟩ := hE.hi
  have hu' : (underlying t).run P w = .ok (.slice e) w := by unfold underlying; simp [hE.ht]
  have hsize : (sizeOf e).run P w = .ok sz w := by simp [sizeOf, typeInfo, hi, hs]
  have hszb : szAt H b = sz := by unfold szAt; rw [hH]; rfl
  have hcp : capAt H b = cap := by unfold capAt; rw [hH]; rfl
  have hnl : ∀ r ∈ toV news, r.length = sz := toV_len fun row hr => (hnews row hr).1
  have hmin : Nat.min m n ≤ (toV news).length := by simp only [toV, List.length_map]; exact Nat.le_of_eq hm
  have hfirst := run_first (P := P) (m := m) (c := c') hE.hsz hsl hnl hmin
  have fin : ∀ w', (∀ A', (AV.o b k n c).den ρ H = .slice A' n c → (match A' with | some q => storeCells q ((toV news).take (Nat.min m n)).flatten | none => pure ()).run P w = .ok () w') → (execOp a.eval o).run P w = .ok (.value (goInt (Nat.min m n : Nat))) w' := fun w' hst => by
    unfold execOp
    simp only [ho, resolve, invoke, builtin, Sem.run_bind, Sem.run_pure, Result.andThen_ok, List.map_toArray, List.map_cons, List.map_nil, g1, g3]
    have hA : ∃ A', (AV.o b k n c).den ρ H = .slice A' n c := ⟨_, rfl⟩
    obtain ⟨A', hA'⟩ := hA
    have hst' := hst A' hA'
    rw [hA']
    simp only [Builtin.copy_, Sem.run_bind, Sem.run_pure, List.getElem?_toArray, List.getElem?_cons_zero, List.getElem?_cons_succ, hu', Result.andThen_ok, Builtin.lenOf, hsize, hfirst]
    cases A' with
    | none => simp only [Sem.run_pure, Result.andThen_ok]; obtain rfl : w = w' := by simpa using hst'
              rfl
    | some q => simp only at hst'; simp only [Sem.run_bind, hst', Result.andThen_ok, Sem.run_pure]
  have hmn : Nat.min m n = news.length := hm
  have htv : (toV news).take (Nat.min m n) = toV news := List.take_of_length_le (by rw [hmn]; simp [toV])
  rw [hmn] at fin
  rw [hmn] at htv
  rw [htv] at fin
  cases g2 with
  | o q0 q1 q2 q3 =>
    rw [hcp] at q2
    cases hB : atB ρ b with
    | none =>
      obtain ⟨rfl, rfl⟩ := q3 hB
      have hw0 : (execOp a.eval o).run P w = .ok (.value (goInt (news.length : Nat))) w := fin w fun A' hA' => by
        rw [AV.den, hB] at hA'
        injection hA' with hA' _ _
        subst hA'
        rfl
      refine ⟨S, ρ, w, ?_, ?_, .c (.s _)⟩
      · rw [hw0]; rfl
      · have : rows.take k ++ news ++ rows.drop (k + news.length) = rows := by
          obtain rfl : news = [] := List.eq_nil_of_length_eq_zero (by omega)
          simp
        rw [this, set_same hH]; exact hR
    | some B =>
      rcases hR.hp.blk _ _ hH with ⟨h0, _, _⟩ | ⟨B', cs, hB', hh, hcs, hmx, hrl, hrow, hcell⟩
      · rw [hB] at h0; cases h0
      obtain rfl : B = B' := by rw [hB] at hB'; injection hB'
      have hns : ∀ r ∈ toV (news), r.length = sz := toV_len fun row hr => (hnews row hr).1
      have hfl : (toV (news)).flatten.length = news.length * sz := by rw [flat_len _ hns]; simp [toV]
      have hfit : k * sz + (toV (news)).flatten.length ≤ cs.size := by
        rw [hfl, hcs, ← Nat.add_mul]; exact Nat.mul_le_mul_right sz (by omega)
      have hone : ∀ u ∈ (toV (news)).flatten, u.oneCell' = true := fun u hu => by
        obtain ⟨r, hr, hur⟩ := List.mem_flatten.1 hu
        obtain ⟨row, hrow', rfl⟩ := List.mem_map.1 hr
        obtain ⟨y, hy', rfl⟩ := List.mem_map.1 hur
        exact ((hnews row hrow').2 y hy').2
      have hst := run_storeCells (P := P) (off := k * sz) (toV (news)).flatten 0 w _ hh (by omega) hone
      rw [Nat.add_zero] at hst
      have hex := fin (putBlk w B (.cells (setAll cs (k * sz) (toV (news)).flatten) e (0, 0))) fun A' hA' => by
        rw [AV.den, hB, hszb] at hA'
        simp only [Option.map_some] at hA'
        injection hA' with hA' _ _
        subst hA'
        exact hst
      have hm := mo_put hR.hp hB (.cells (setAll cs (k * sz) (toV (news)).flatten) e (0, 0))
      refine ⟨S, ρ, putBlk w B (.cells (setAll cs (k * sz) (toV (news)).flatten) e (0, 0)), ?_, ?_, .c (.s _)⟩
      · rw [hex]; rfl
      · have hlk : (rows.take k).length = k := by rw [List.length_take, Nat.min_eq_left hk]
        have hlen : (rows.take k ++ news ++ rows.drop (k + news.length)).length ≤ cap := by simp only [List.length_append, List.length_drop, hlk]; omega
        have hmem : ∀ r ∈ rows.take k ++ news ++ rows.drop (k + news.length), r ∈ rows ∨ r ∈ news := fun r hr => by
          rcases List.mem_append.1 hr with hr | hr
          · rcases List.mem_append.1 hr with hr | hr
            · exact .inl (List.mem_of_mem_take hr)
            · exact .inr hr
          · exact .inl (List.mem_of_mem_drop hr)
        refine R.set (ob := .arr e sz cap rows) (ob' := .arr e sz cap (rows.take k ++ news ++ rows.drop (k + news.length))) (cob := .cells (setAll cs (k * sz) (toV (news)).flatten) e (0, 0)) hR hH hB rfl rfl (fun _ => rfl) (putBlk_size _ _) (.inr ⟨B, _, rfl, putBlk_at hh, by rw [setAll_size 0]; exact hcs, hmx, hlen, fun r hr => ?_, fun k' j' r u hk' hj' => ?_⟩)
        · rcases hmem r hr with h | h
          · exact ⟨(hrow r h).1, fun u hu => ⟨((hrow r h).2 u hu).1.mono hm, ((hrow r h).2 u hu).2⟩⟩
          · exact ⟨(hnews r h).1, fun u hu => ⟨((hnews r h).2 u hu).1.mono hm, ((hnews r h).2 u hu).2⟩⟩
        · have hj : j' < sz := by
            have hr' : r.length = sz := by
              rcases hmem r (List.mem_of_getElem? hk') with h | h
              · exact (hrow r h).1
              · exact (hnews r h).1
            rw [← hr']; exact (List.getElem?_eq_some_iff.1 hj').1
          rw [setAll_get _ _ _ _ hfit, hfl]
          rw [List.getElem?_append, List.getElem?_append] at hk'
          simp only [List.length_append, hlk] at hk'
          by_cases h1 : k' < k
          · rw [if_pos (by omega), if_pos h1, List.getElem?_take, if_pos h1] at hk'
            rw [if_neg ?_]
            · exact hcell k' j' r u hk' hj'
            · rintro ⟨w1, _⟩
              have : (k' + 1) * sz ≤ k * sz := Nat.mul_le_mul_right sz (by omega)
              rw [Nat.add_mul] at this
              omega
          · by_cases h2 : k' < k + news.length
            · rw [if_pos h2, if_neg h1] at hk'
              have w1 : k * sz ≤ k' * sz := Nat.mul_le_mul_right sz (by omega)
              have w2 : (k' + 1) * sz ≤ (k + news.length) * sz := Nat.mul_le_mul_right sz (by omega)
              rw [Nat.add_mul, Nat.add_mul k] at w2
              rw [if_pos ⟨by omega, by omega⟩]
              have hr2 : (toV (news))[k' - k]? = some (r.map CV.den) := by unfold toV; rw [List.getElem?_map, hk']; rfl
              have hu2 : (r.map CV.den)[j']? = some u.den := by rw [List.getElem?_map, hj']; rfl
              have := flatten_at _ hns _ _ hr2 _ _ hu2
              rw [Nat.sub_mul] at this
              rw [show k' * sz + j' - k * sz = k' * sz - k * sz + j' from by omega]
              exact this
            · rw [if_neg h2, List.getElem?_drop, show k + news.length + (k' - (k + news.length)) = k' from by omega] at hk'
              rw [if_neg ?_]
              · exact hcell k' j' r u hk' hj'
              · rintro ⟨_, w2⟩
                have : (k + news.length) * sz ≤ k' * sz := Nat.mul_le_mul_right sz (by omega)
                rw [Nat.add_mul] at this
                omega
/-- copy out of an array of the call's own. -/
theorem ef_copyo {t t' e e2 : TypeId} {sz d : Nat} {x y : Operand} {b k n c cap b2 k2 m2 c2 cap2 : Nat} {rows rows2 news R2 : List (List CV)} (ho : o.op = .call { callee := .builtin .copy, args := #[x, y], argTypes := #[t, t'] }) (hd : o.dst = some d) (hN : d < N) (hE : ElemTy P t e sz)
    (hx : ev F x = some (.o b k n c)) (hH : H[b]? = some (.arr e sz cap rows)) (hk : k ≤ rows.length) (hy : ev F y = some (.o b2 k2 m2 c2)) (hH2 : H[b2]? = some (.arr e2 sz cap2 rows2)) (hn : (rows2.drop k2).take (min m2 n) = news) (hl : news.length = min m2 n) (hR2 : rows.take k ++ news ++ rows.drop (k + news.length) = R2) :
    Ef P N E o F H fun F' H' => F' = (d, .c (.s (.int .i64 (news.length : Nat)))) :: F ∧ H' = H.set b (.arr e sz cap R2) := by
  subst hR2
  refine ef_copyg (m := m2) ho hd hN hE hx hH hk hl.symm fun S ρ a w hR => ?_
  obtain ⟨g1, g2⟩ := hR.ev hy
  cases g2 with
  | o q0 q1 q2 q3 =>
    have hw : WF w S ρ H (.o b2 k2 (min m2 n) c2) := .o q0 (by omega) q2 (fun h => by have := q3 h; omega)
    obtain ⟨A, c', hv, hsl, hnews⟩ := hR.src hw (Src.own hH2 hn hl)
    rw [AV.den] at hv
    injection hv with hA _ _
    exact ⟨A, c2, by rw [g1, AV.den, hA], hsl, hnews⟩
end
end Go.Proofs.YtdmeohgojdfmoaaGreat

/- append of zeros to no rows, where there is no room; slices.overlaps of two blocks of the call's own. -/
namespace Go.Proofs.YtdmeohgojdfmoaaGreat
open Go Go.RowKit
section
variable {P : Program} {N : Nat} {E : Env} {F : Fm} {H : List OB} {o : Oper} {S : Nat → Prop} {ρ : List (Option Nat)} {a : Act} {w : World}
theorem run_app_zeros (w : World) (t tn ty e : TypeId) (i : TypeInfo) (z : Value) (k kn : IntKind) (ht : P.underlying t = some (.slice e)) (htn : P.underlying tn = some (.int kn)) (hi : P.info? e = some i) (hz : i.zero = some z)
    (A : Option Addr) (c n : Nat) (h0 : c < n) (hs : 0 < i.size) (h63 : (n : Int) ≤ 9223372036854775807) (h48 : 2 * n * i.bytes ≤ 281474976710656) :
    (Builtin.append_ #[t, tn] ty #[.slice A 0 c, .int k n]).run P w =
      .ok (.slice (some ⟨w.heap.size, 0, none⟩) n (grownCap w n c e)) (w.drew.alloc (.cells (Builtin.zeroCells z.cells n ++ Builtin.zeroCells z.cells (grownCap w n c e - n)) e)) := by
  have hn : n ≠ 0 := by omega
  have hw : IntKind.i64.wrap (n : Int) = n := by rw [IntKind.wrap_i64]; omega
  have h63' : ¬ (9223372036854775807 < (n : Int)) := by omega
  have hle := nextslicecap_le h0
  have h48' : ¬ (281474976710656 < Builtin.nextslicecap n c * i.bytes) := by
    have : Builtin.nextslicecap n c * i.bytes ≤ 2 * n * i.bytes := Nat.mul_le_mul_right _ hle
    omega
  have h48i : ¬ (281474976710656 < (n : Int) * (i.bytes : Int)) := by
    rw [← Int.natCast_mul]
    have : n * i.bytes ≤ 2 * n * i.bytes := Nat.mul_le_mul_right _ (by omega)
    omega
  have hneg : ¬ ((n : Int) < 0) := by omega
  have hns : ¬ (n * i.size = 0) := Nat.mul_ne_zero hn (by omega)
  have hroom : ¬ n ≤ c := by omega
  have hf : ∀ w, (Builtin.firstCells i.size 0 (.slice A 0 c)).run P w = .ok #[] w := fun w => by
    cases A with
    | none => exact run_firstCells_none w _ _ _ _
    | some q => exact run_firstCells_some w i.size 0 q 0 c [] (by simp) (fun j v h => by simp at h)
  simp [Builtin.append_, run_underlying ht, run_underlying htn, sizeOf, typeInfo, zeroValue, hi, hz, asInt, asIntOf, hw, hn, hneg, hns, h63', h48', h48i, hroom, Question.forced, hf, newRow, grownCap]
theorem ef_appz {t tn e : TypeId} {sz d b k c cap n : Nat} {kx kn : IntKind} {zi : Int} {s x : Operand} {z : Value} {vs : List Value} {rows : List (List CV)} (ho : o.op = .call { callee := .builtin .append, args := #[s, x], argTypes := #[t, tn] }) (hd : o.dst = some d) (hN : d < N)
    (hE : ElemTy P t e sz) (htn : P.underlying tn = some (.int kn)) (hs : ev F s = some (.o b k 0 c)) (hH : H[b]? = some (.arr e sz cap rows)) (hx : ev F x = some (.c (.s (.int kx zi)))) (hzi : zi = n) (hn : c < n) (hle : n ≤ 1000000000)
    (hz : (P.info? e).bind (·.zero) = some z) (hvs : z.cells = vs.toArray) (h1 : vs.all Value.oneCell' = true) :
    Ef P N E o F H fun F' H' => ∃ c2, n ≤ c2 ∧ F' = (d, .o H.length 0 n c2) :: F ∧ H' = H ++ [.arr e sz c2 (List.replicate n (vs.map cvOf))] := fun S ρ a w hR => by
  subst hzi
  obtain ⟨g1, _⟩ := hR.ev hs
  obtain ⟨g3, _⟩ := hR.ev hx
  obtain ⟨inf, z', hi, hz', hsz, hby, hzs⟩ := hE.hi
  obtain rfl : z' = z := by rw [hi] at hz; simp only [Option.bind_some] at hz; rw [hz'] at hz; exact Option.some.inj hz
  have hrun := run_app_zeros (P := P) w t tn o.type e inf z' kx kn hE.ht htn hi hz' ((AV.o b k 0 c).den ρ H |> fun v => match v with | .slice A _ _ => A | _ => none) c n hn (by rw [hsz]; exact hE.hsz) (by omega) (by
    have : 2 * n * inf.bytes ≤ 2 * n * 256 := Nat.mul_le_mul_left _ hby
    omega)
  have hge := grownCap_ge w n c e
  have hcm : grownCap w n c e ≤ maxLen := grownCap_le_maxLen w n c e (by simp only [maxLen]; omega)
  have hvl : vs.length = sz := by rw [← hzs, hvs]; simp
  unfold effO
  have hex : (execOp a.eval o).run P w = .ok (.value (.slice (some ⟨w.heap.size, 0, none⟩) n (grownCap w n c e))) (w.drew.alloc (.cells (Builtin.zeroCells z'.cells n ++ Builtin.zeroCells z'.cells (grownCap w n c e - n)) e)) := by
    unfold execOp
    simp only [AV.den, CV.den] at g1 g3 hrun
    simp only [ho, resolve, invoke, builtin, Sem.run_bind, Sem.run_pure, Result.andThen_ok, List.map_toArray, List.map_cons, List.map_nil, g1, g3, hrun]
  rw [hex]
  have hR2 := hR.drew
  have hob : OwnB (w.drew.alloc (.cells (Builtin.zeroCells z'.cells n ++ Builtin.zeroCells z'.cells (grownCap w n c e - n)) e)) S (ρ ++ [some w.drew.heap.size]) (H ++ [.arr e sz (grownCap w n c e) (List.replicate n (vs.map cvOf))]) (.arr e sz (grownCap w n c e) (List.replicate n (vs.map cvOf))) (some w.drew.heap.size) := by
    refine .inr ⟨_, _, rfl, heap_new _ _, ?_, hcm, by simpa using hge, fun row hrow => ?_, fun k' j row u hk hj => ?_⟩
    · simp only [Array.size_append, size_zeroCells, hzs, ← Nat.add_mul]
      congr 1; omega
    · have := List.eq_of_mem_replicate hrow
      subst this
      refine ⟨by simp [hvl], fun u hu => ?_⟩
      obtain ⟨v, hv, rfl⟩ := List.mem_map.1 hu
      exact ⟨cvOf_good _ _ _, by rw [cvOf_den]; exact List.all_eq_true.1 h1 v hv⟩
    · rw [List.getElem?_replicate] at hk
      split at hk
      · rename_i hkc
        injection hk with hk
        subst hk
        rw [List.getElem?_map] at hj
        cases hv : vs[j]? with
        | none => rw [hv] at hj; cases hj
        | some v =>
          rw [hv] at hj
          simp only [Option.map_some, Option.some.injEq] at hj
          subst hj
          have hjl : j < sz := by rw [← hvl]; exact (List.getElem?_eq_some_iff.1 hv).1
          have hlt : k' * sz + j < n * sz := by
            have : (k' + 1) * sz ≤ n * sz := Nat.mul_le_mul_right sz hkc
            rw [Nat.add_mul] at this
            omega
          rw [cvOf_den, Array.getElem?_append, if_pos (by rw [size_zeroCells, hzs]; exact hlt)]
          have hlt' : k' * sz + j < n * z'.cells.size := by rw [hzs]; exact hlt
          simp only [Builtin.zeroCells, Array.getElem?_map, Array.getElem?_range, hlt', if_true, Option.map_some]
          rw [hzs, show (k' * sz + j) % sz = j from by rw [Nat.add_comm, Nat.add_mul_mod_self_right, Nat.mod_eq_of_lt hjl]]
          congr 1
          have : z'.cells[j]? = some v := by rw [hvs]; simpa using hv
          rw [getElem!_def, this]
      · cases hk
  have hR3 := hR2.new _ e _ hob
  refine ⟨S, ρ ++ [some w.drew.heap.size], _, _, ⟨grownCap w n c e, hge, rfl, rfl⟩, ?_⟩
  rw [hd]
  have := hR3.put hN (wf_snoc_o hR2.hp (ob := .arr e sz (grownCap w n c e) (List.replicate n (vs.map cvOf))) (n := n) (c := grownCap w n c e) hge (Nat.le_refl _))
  rw [den_snoc_o hR2.hp] at this
  exact this
theorem rd_overlaps {f : FuncId} {fn : Func} {x y : Operand} {t tr e e' : TypeId} {sz b k n c b' k' n' c' cap cap' : Nat} {rows rows' : List (List CV)} {tys : Array TypeId} (ho : o.op = .call { callee := .value (.func f), args := #[x, y], argTypes := tys })
    (hf : P.funcs[f]? = some fn) (hname : (fn.name == "runtime.NumGoroutine") = false) (hb : fn.body.isNone = true) (hnx : Extern.findNext fn = none) (he : Extern.find fn = some (Extern.SlicesOverlaps.overlaps #[t, t] #[tr])) (hE : ElemTy P t e sz)
    (hx : ev F x = some (.o b k n c)) (hy : ev F y = some (.o b' k' n' c')) (hH : H[b]? = some (.arr e sz cap rows)) (hH' : H[b']? = some (.arr e' sz cap' rows')) (hne : b ≠ b') (hn0 : 0 < n) (hn : 0 < n') : Rd P N E o F H (.c (.s (.bool false))) := fun S ρ a w hR => by
  obtain ⟨g1, g2⟩ := hR.ev hx
  obtain ⟨g3, g4⟩ := hR.ev hy
  obtain ⟨inf, z, hi, hz, hs, hby, hzs⟩ := hE.hi
  have hsize : ∀ w, (sizeOf e).run P w = .ok sz w := fun w => by simp [sizeOf, typeInfo, hi, hs]
  refine ⟨?_, .c (.s _)⟩
  have fin : (Extern.SlicesOverlaps.overlaps #[t, t] #[tr] #[(AV.o b k n c).den ρ H, (AV.o b' k' n' c').den ρ H]).run P w = .ok (.bool false) w → (execOp a.eval o).run P w = .ok (.value ((AV.c (.s (.bool false))).den ρ H)) w := fun hr => by
    have hf0 : a.eval (.func f) = .func (.func f) #[] #[] := rfl
    have hcf := run_callFunc_extern hf hname hb hnx he #[(AV.o b k n c).den ρ H, (AV.o b' k' n' c').den ρ H] w
    rw [hr] at hcf
    unfold execOp
    simp only [ho, resolve, hf0, Deferred.ofValue, Sem.run_bind, Sem.run_pure, Result.andThen_ok, List.map_toArray, List.map_cons, List.map_nil, g1, g3, invoke, Array.append_empty, Array.empty_append, hcf]
    rfl
  refine fin ?_
  cases g2 with
  | o q0 q1 q2 q3 =>
    cases g4 with
    | o p0 p1 p2 p3 =>
      cases hB : atB ρ b with
      | none =>
        have := (q3 hB).1; omega
      | some B =>
        cases hB' : atB ρ b' with
        | none => have := (p3 hB').1; omega
        | some B' =>
          rcases hR.hp.blk _ _ hH with ⟨h0, _, _⟩ | ⟨B1, cs, hB1, hh, hcs, _⟩
          · rw [hB] at h0; cases h0
          rcases hR.hp.blk _ _ hH' with ⟨h0, _, _⟩ | ⟨B2, cs', hB2, hh', hcs', _⟩
          · rw [hB'] at h0; cases h0
          obtain rfl : B = B1 := by rw [hB] at hB1; injection hB1
          obtain rfl : B' = B2 := by rw [hB'] at hB2; injection hB2
          have hBB : B ≠ B' := fun h => hne (hR.hp.nd _ _ _ hB (h ▸ hB'))
          have hcp : capAt H b' = cap' := by unfold capAt; rw [hH']; rfl
          have hk0 : cs'.size ≠ 0 := by
            rw [hcs']
            rw [hcp] at p2
            exact Nat.mul_ne_zero (by omega) (by have := hE.hsz; omega)
          simp only [AV.den, hB, hB', Option.map_some]
          exact Lib.run_overlaps_apart w t tr e hE.ht sz hsize _ _ n c n' c' hBB e e' cs.size cs'.size (by simp [World.shape?, hh]) (by simp [World.shape?, hh']) hk0 (by simp [World.frozen?, hh]) (by simp [World.frozen?, hh])
end
end Go.Proofs.YtdmeohgojdfmoaaGreat

/- append of zeros behind some rows, where there is no room. -/
namespace Go.Proofs.YtdmeohgojdfmoaaGreat
open Go Go.RowKit
section
variable {P : Program} {N : Nat} {E : Env} {F : Fm} {H : List OB} {o : Oper} {S : Nat → Prop} {ρ : List (Option Nat)} {a : Act} {w : World}
theorem ef_appzo {t tn e : TypeId} {sz d b i c cap n : Nat} {kx kn : IntKind} {zi : Int} {s x : Operand} {z : Value} {vs : List Value} {rows : List (List CV)} (ho : o.op = .call { callee := .builtin .append, args := #[s, x], argTypes := #[t, tn] }) (hd : o.dst = some d) (hN : d < N)
    (hE : ElemTy P t e sz) (htn : P.underlying tn = some (.int kn)) (hs : ev F s = some (.o b 0 i c)) (hH : H[b]? = some (.arr e sz cap rows)) (hi0 : i ≤ rows.length) (hx : ev F x = some (.c (.s (.int kx zi)))) (hzi : zi = n) (hn0 : 0 < n) (hn : c < i + n) (hle : i + n ≤ 1000000000)
    (hz : (P.info? e).bind (·.zero) = some z) (hvs : z.cells = vs.toArray) (h1 : vs.all Value.oneCell' = true) :
    Ef P N E o F H fun F' H' => ∃ c2, i + n ≤ c2 ∧ F' = (d, .o H.length 0 (i + n) c2) :: F ∧ H' = H ++ [.arr e sz c2 (rows.take i ++ List.replicate n (vs.map cvOf))] := fun S ρ a w hR => by
  subst hzi
  obtain ⟨g1, g2⟩ := hR.ev hs
  obtain ⟨g3, _⟩ := hR.ev hx
  obtain ⟨inf, z', hi, hz', hsz, hby, hzs⟩ := hE.hi
  obtain rfl : z' = z := by rw [hi] at hz; simp only [Option.bind_some] at hz; rw [hz'] at hz; exact Option.some.inj hz
  have hli : (rows.take i).length = i := by simp; omega
  have hR2 := hR.drew
  obtain ⟨A, c', hv, hsl, hnews⟩ := hR2.src (hR2.ev hs).2 (Src.own (news := rows.take i) hH (by simp) hli)
  have hden : (AV.o b 0 i c).den ρ H = .slice A i c := by
    rw [hli] at hv
    rw [AV.den] at hv ⊢
    injection hv with h1 h2 h3
    rw [h1]
  have hll : ∀ r ∈ toV (rows.take i), r.length = sz := toV_len fun row hr => (hnews row hr).1
  have hfirst := run_first (P := P) (c := c) (m := i) hE.hsz hsl hll (cnt := i) (by simp [toV]; omega)
  rw [show (toV (rows.take i)).take i = toV (rows.take i) from List.take_of_length_le (by simp [toV]; omega)] at hfirst
  have hnle := nextslicecap_le hn
  have hrun := Lib.run_append_grow_zeros (P := P) w t tn o.type e inf z' kx kn hE.ht htn hi hz' A i c (toV (rows.take i)).flatten (by rw [hsz]; exact hfirst) n hn0 (by rw [hsz]; exact hE.hsz) hn (by omega) (by
    have : n * inf.bytes ≤ n * 256 := Nat.mul_le_mul_left _ hby
    omega) (by
    have h2 : Builtin.nextslicecap (i + n) c * inf.bytes ≤ (2 * (i + n)) * 256 := Nat.mul_le_mul hnle hby
    omega)
  have hge := grownCap_ge w (i + n) c e
  have hcm : grownCap w (i + n) c e ≤ maxLen := grownCap_le_maxLen w (i + n) c e (by simp only [maxLen]; omega)
  have hvl : vs.length = sz := by rw [← hzs, hvs]; simp
  have hfl : ((toV (rows.take i)).flatten).length = i * sz := by rw [flat_len _ hll]; simp [toV]; rw [Nat.min_eq_left hi0]
  unfold effO
  have hex : (execOp a.eval o).run P w = .ok (.value (.slice (some ⟨w.heap.size, 0, none⟩) (i + n) (grownCap w (i + n) c e))) (w.drew.alloc (.cells ((toV (rows.take i)).flatten.toArray ++ Builtin.zeroCells z'.cells n ++ Builtin.zeroCells z'.cells (grownCap w (i + n) c e - (i + n))) e)) := by
    unfold execOp
    rw [hden] at g1
    simp only [AV.den, CV.den] at g1 g3
    simp only [ho, resolve, invoke, builtin, Sem.run_bind, Sem.run_pure, Result.andThen_ok, List.map_toArray, List.map_cons, List.map_nil, g1, g3, hrun]
  rw [hex]
  have hob : OwnB (w.drew.alloc (.cells ((toV (rows.take i)).flatten.toArray ++ Builtin.zeroCells z'.cells n ++ Builtin.zeroCells z'.cells (grownCap w (i + n) c e - (i + n))) e)) S (ρ ++ [some w.drew.heap.size]) (H ++ [.arr e sz (grownCap w (i + n) c e) (rows.take i ++ List.replicate n (vs.map cvOf))]) (.arr e sz (grownCap w (i + n) c e) (rows.take i ++ List.replicate n (vs.map cvOf))) (some w.drew.heap.size) := by
    have hmo : Mo w.drew S (w.drew.alloc (.cells ((toV (rows.take i)).flatten.toArray ++ Builtin.zeroCells z'.cells n ++ Builtin.zeroCells z'.cells (grownCap w (i + n) c e - (i + n))) e)) S := fun k hk => ⟨hk, heap_alloc_old _ _ (hR2.hp.sS k hk)⟩
    refine .inr ⟨_, _, rfl, heap_new _ _, ?_, hcm, by simp; omega, fun row hrow => ?_, fun k' j row u hk hj => ?_⟩
    · simp only [Array.size_append, size_zeroCells, hzs, List.size_toArray, hfl, ← Nat.add_mul]
      congr 1; omega
    · rcases List.mem_append.1 hrow with hrow | hrow
      · refine ⟨(hnews row hrow).1, fun u hu => ⟨((hnews row hrow).2 u hu).1.mono hmo, ((hnews row hrow).2 u hu).2⟩⟩
      · have := List.eq_of_mem_replicate hrow
        subst this
        refine ⟨by simp [hvl], fun u hu => ?_⟩
        obtain ⟨v, hv, rfl⟩ := List.mem_map.1 hu
        exact ⟨cvOf_good _ _ _, by rw [cvOf_den]; exact List.all_eq_true.1 h1 v hv⟩
    · rw [List.getElem?_append, hli] at hk
      split at hk
      · rename_i hki
        have hrl : row.length = sz := (hnews row (List.mem_of_getElem? hk)).1
        have hjl : j < sz := by rw [← hrl]; exact (List.getElem?_eq_some_iff.1 hj).1
        have hlt : k' * sz + j < i * sz := by
          have : (k' + 1) * sz ≤ i * sz := Nat.mul_le_mul_right sz hki
          rw [Nat.add_mul] at this
          omega
        have := flatten_back (rows.take i) (fun r hr => (hnews r hr).1) rfl k' j row u hk hj
        rw [Array.append_assoc, Array.getElem?_append, if_pos (by simpa [hfl] using hlt), List.getElem?_toArray]
        exact this
      · rename_i hki
        rw [List.getElem?_replicate] at hk
        split at hk
        · rename_i hkc
          injection hk with hk
          subst hk
          rw [List.getElem?_map] at hj
          cases hv : vs[j]? with
          | none => rw [hv] at hj; cases hj
          | some v =>
            rw [hv] at hj
            simp only [Option.map_some, Option.some.injEq] at hj
            subst hj
            have hjl : j < sz := by rw [← hvl]; exact (List.getElem?_eq_some_iff.1 hv).1
            obtain ⟨q, rfl⟩ : ∃ q, k' = i + q := ⟨k' - i, by omega⟩
            have hq : q < n := by omega
            have hlt : q * sz + j < n * sz := by
              have : (q + 1) * sz ≤ n * sz := Nat.mul_le_mul_right sz hq
              rw [Nat.add_mul] at this
              omega
            have hsub : (i + q) * sz + j - i * sz = q * sz + j := by rw [Nat.add_mul]; omega
            rw [cvOf_den, Array.append_assoc, Array.getElem?_append, if_neg (by simp only [List.size_toArray, hfl, Nat.not_lt]; rw [Nat.add_mul]; omega), List.size_toArray, hfl, hsub, Array.getElem?_append, if_pos (by rw [size_zeroCells, hzs]; exact hlt)]
            have hlt' : q * sz + j < n * z'.cells.size := by rw [hzs]; exact hlt
            simp only [Builtin.zeroCells, Array.getElem?_map, Array.getElem?_range, hlt', if_true, Option.map_some]
            rw [hzs, show (q * sz + j) % sz = j from by rw [Nat.add_comm, Nat.add_mul_mod_self_right, Nat.mod_eq_of_lt hjl]]
            congr 1
            have : z'.cells[j]? = some v := by rw [hvs]; simpa using hv
            rw [getElem!_def, this]
        · cases hk
  have hR3 := hR2.new _ e _ hob
  refine ⟨S, ρ ++ [some w.drew.heap.size], _, _, ⟨grownCap w (i + n) c e, hge, rfl, rfl⟩, ?_⟩
  rw [hd]
  have := hR3.put hN (wf_snoc_o hR2.hp (ob := .arr e sz (grownCap w (i + n) c e) (rows.take i ++ List.replicate n (vs.map cvOf))) (n := i + n) (c := grownCap w (i + n) c e) hge (Nat.le_refl _))
  rw [den_snoc_o hR2.hp] at this
  exact this
end
end Go.Proofs.YtdmeohgojdfmoaaGreat
