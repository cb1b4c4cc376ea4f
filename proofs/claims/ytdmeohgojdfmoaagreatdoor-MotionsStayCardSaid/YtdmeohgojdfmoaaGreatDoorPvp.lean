/- copy into an array of the call's own. -/
import Derived.Test.YtdmeohgojdfmoaaGreatDoorPvo
set_option linter.unusedSimpArgs false
set_option linter.unusedVariables false
namespace Go.Proofs.YtdmeohgojdfmoaaGreatDoor
open Go Go.RowKit
section
variable {P : Program} {N : Nat} {E : Env} {F : Fm} {H : List OB} {o : Oper} {S : Nat → Prop} {ρ : List (Option Nat)} {a : Act} {w : World}
theorem flat_len {sz : Nat} : ∀ l : List (List Value), (∀ r ∈ l, r.length = sz) → l.flatten.length = l.length * sz
  | [], _ => by simp
  | x :: l, h => by rw [List.flatten_cons, List.length_append, flat_len l (fun r hr => h r (by simp [hr])), h x (by simp), List.length_cons, Nat.add_mul]; omega
/-- The first rows of a source, as cells. -/
theorem run_first {sz hi : Nat} {A : Option Addr} {m c cnt : Nat} {news : List (List Value)} (hsz : 0 < sz) (hr : Sl w 0 hi sz A news) (hl : ∀ r ∈ news, r.length = sz) (hc : cnt ≤ news.length) :
    (Builtin.firstCells sz cnt (.slice A m c)).run P w = .ok (news.take cnt).flatten.toArray w := by
  by_cases hn : news = []
  · subst hn
    obtain rfl : cnt = 0 := by simpa using hc
    cases A with
    | none => rw [run_firstCells_none]; simp
    | some a => exact run_firstCells_some w sz 0 a m c [] (by simp) (fun j v h => by simp at h)
  · obtain ⟨b, off, rfl, _, _, _, hcell⟩ := hr hn
    have hl' : ∀ r ∈ news.take cnt, r.length = sz := fun r hr => hl r (List.mem_of_mem_take hr)
    have hfl : (news.take cnt).flatten.length = cnt * sz := by rw [flat_len _ hl', List.length_take, Nat.min_eq_left hc]
    refine run_firstCells_some w sz cnt _ m c _ hfl fun j u hj => ?_
    have hjl : j < cnt * sz := by
      rcases Nat.lt_or_ge j (cnt * sz) with h | h
      · exact h
      · rw [List.getElem?_eq_none (by omega)] at hj; cases hj
    have hk : j / sz < cnt := Nat.div_lt_of_lt_mul (by rw [Nat.mul_comm]; exact hjl)
    have hk2 : j / sz < (news.take cnt).length := by rw [List.length_take, Nat.min_eq_left hc]; exact hk
    have hr0 : (news.take cnt)[j / sz]? = some ((news.take cnt)[j / sz]'hk2) := List.getElem?_eq_getElem hk2
    have hjm : j % sz < sz := Nat.mod_lt _ hsz
    have hrl := hl' _ (List.getElem_mem hk2)
    have hu0 : ((news.take cnt)[j / sz]'hk2)[j % sz]? = some (((news.take cnt)[j / sz]'hk2)[j % sz]'(by omega)) := List.getElem?_eq_getElem (by omega)
    have hf := flatten_at _ hl' _ _ hr0 _ _ hu0
    have hdm : j / sz * sz + j % sz = j := by rw [Nat.mul_comm]; exact Nat.div_add_mod j sz
    rw [hdm, hj] at hf
    injection hf with hf
    have hr1 : news[j / sz]? = some ((news.take cnt)[j / sz]'hk2) := by
      rw [List.getElem?_take, if_pos hk] at hr0; exact hr0
    have := hcell _ _ hr1 _ _ hu0
    rw [← hf] at this
    rw [show off + j / sz * sz + j % sz = off + j from by omega] at this
    have e : (⟨b, off, none⟩ : Addr).add j = ⟨b, off + j, none⟩ := by simp [Addr.add]
    rw [e]; exact this
theorem set_same {b : Nat} {ob : OB} (h : H[b]? = some ob) : H.set b ob = H := by
  refine List.ext_getElem? fun i => ?_
  rw [List.getElem?_set]
  split
  · rename_i hbi; subst hbi
    split
    · exact h.symm
    · rename_i hl; rw [List.getElem?_eq_none (by omega)] at h; cases h
  · rfl
theorem ef_copyg {t t' e : TypeId} {sz d : Nat} {x y : Operand} {b k n c cap m : Nat} {rows news : List (List CV)} (ho : o.op = .call { callee := .builtin .copy, args := #[x, y], argTypes := #[t, t'] }) (hd : o.dst = some d) (hN : d < N) (hE : ElemTy P t e sz)
    (hx : ev F x = some (.o b k n c)) (hH : H[b]? = some (.arr e sz cap rows)) (hk : k ≤ rows.length) (hm : min m n = news.length)
    (hsr : ∀ S ρ a w, R N E S ρ F H a w → ∃ A c', a.eval y = .slice A m c' ∧ Sl w 0 w.heap.size sz A (toV news) ∧ ∀ row ∈ news, row.length = sz ∧ ∀ u ∈ row, Good w S u ∧ u.den.oneCell' = true) :
    Ef P N E o F H fun F' H' => F' = (d, .c (.s (.int .i64 (news.length : Nat)))) :: F ∧ H' = H.set b (.arr e sz cap (rows.take k ++ news ++ rows.drop (k + news.length))) := by
  refine ef_of (x := .c (.s (.int .i64 (news.length : Nat)))) hd hN ⟨rfl, rfl⟩ fun S ρ a w hR => ?_
  obtain ⟨g1, g2⟩ := hR.ev hx
  obtain ⟨A, c', g3, hsl, hnews⟩ := hsr S ρ a w hR
  have hv := g3
  obtain ⟨inf, z, hi, hz, hs, hby, hzs⟩ := hE.hi
  have hu' : (underlying t).run P w = .ok (.slice e) w := by unfold underlying; simp [hE.ht]
  have hsize : (sizeOf e).run P w = .ok sz w := by simp [sizeOf, typeInfo, hi, hs]
  have hszb : szAt H b = sz := by unfold szAt; rw [hH]; rfl
  have hcp : capAt H b = cap := by unfold capAt; rw [hH]; rfl
  have hnl : ∀ r ∈ toV news, r.length = sz := toV_len fun row hr => (hnews row hr).1
  have hmin : Nat.min m n ≤ (toV news).length := by simp only [toV, List.length_map]; exact Nat.le_of_eq hm
  have hfirst := run_first (P := P) (m := m) (c := c') hE.hsz hsl hnl hmin
  have fin : ∀ w', (∀ A', (AV.o b k n c).den ρ H = .slice A' n c → (match A' with | some q => storeCells q ((toV news).take (Nat.min m n)).flatten | none => pure ()).run P w = .ok () w') → (execOp a.eval o).run P w = .ok (.value (goInt (Nat.min m n : Nat))) w' := fun w' hst => by
    unfold execOp
    simp only [ho, resolve, invoke, builtin, Sem.run_bind, Sem.run_pure, Result.andThen_ok, List.map_toArray, List.map_cons, List.map_nil, g1, g3]
    have hA : ∃ A', (AV.o b k n c).den ρ H = .slice A' n c := ⟨_, rfl⟩
    obtain ⟨A', hA'⟩ := hA
    have hst' := hst A' hA'
    rw [hA']
    simp only [Builtin.copy_, Sem.run_bind, Sem.run_pure, List.getElem?_toArray, List.getElem?_cons_zero, List.getElem?_cons_succ, hu', Result.andThen_ok, Builtin.lenOf, hsize, hfirst]
    cases A' with
    | none => simp only [Sem.run_pure, Result.andThen_ok]; obtain rfl : w = w' := by simpa using hst'
              rfl
    | some q => simp only at hst'; simp only [Sem.run_bind, hst', Result.andThen_ok, Sem.run_pure]
  have hmn : Nat.min m n = news.length := hm
  have htv : (toV news).take (Nat.min m n) = toV news := List.take_of_length_le (by rw [hmn]; simp [toV])
  rw [hmn] at fin
  rw [hmn] at htv
  rw [htv] at fin
  cases g2 with
  | o q0 q1 q2 q3 =>
    rw [hcp] at q2
    cases hB : atB ρ b with
    | none =>
      obtain ⟨rfl, rfl⟩ := q3 hB
      have hw0 : (execOp a.eval o).run P w = .ok (.value (goInt (news.length : Nat))) w := fin w fun A' hA' => by
        rw [AV.den, hB] at hA'
        injection hA' with hA' _ _
        subst hA'
        rfl
      refine ⟨S, ρ, w, ?_, ?_, .c (.s _)⟩
      · rw [hw0]; rfl
      · have : rows.take k ++ news ++ rows.drop (k + news.length) = rows := by
          obtain rfl : news = [] := List.eq_nil_of_length_eq_zero (by omega)
          simp
        rw [this, set_same hH]; exact hR
    | some B =>
      rcases hR.hp.blk _ _ hH with ⟨h0, _, _⟩ | ⟨B', cs, hB', hh, hcs, hmx, hrl, hrow, hcell⟩
      · rw [hB] at h0; cases h0
      obtain rfl : B = B' := by rw [hB] at hB'; injection hB'
      have hns : ∀ r ∈ toV (news), r.length = sz := toV_len fun row hr => (hnews row hr).1
      have hfl : (toV (news)).flatten.length = news.length * sz := by rw [flat_len _ hns]; simp [toV]
      have hfit : k * sz + (toV (news)).flatten.length ≤ cs.size := by
        rw [hfl, hcs, ← Nat.add_mul]; exact Nat.mul_le_mul_right sz (by omega)
      have hone : ∀ u ∈ (toV (news)).flatten, u.oneCell' = true := fun u hu => by
        obtain ⟨r, hr, hur⟩ := List.mem_flatten.1 hu
        obtain ⟨row, hrow', rfl⟩ := List.mem_map.1 hr
        obtain ⟨y, hy', rfl⟩ := List.mem_map.1 hur
        exact ((hnews row hrow').2 y hy').2
      have hst := run_storeCells (P := P) (off := k * sz) (toV (news)).flatten 0 w _ hh (by omega) hone
      rw [Nat.add_zero] at hst
      have hex := fin (putBlk w B (.cells (setAll cs (k * sz) (toV (news)).flatten) e (0, 0))) fun A' hA' => by
        rw [AV.den, hB, hszb] at hA'
        simp only [Option.map_some] at hA'
        injection hA' with hA' _ _
        subst hA'
        exact hst
      have hm := mo_put hR.hp hB (.cells (setAll cs (k * sz) (toV (news)).flatten) e (0, 0))
      refine ⟨S, ρ, putBlk w B (.cells (setAll cs (k * sz) (toV (news)).flatten) e (0, 0)), ?_, ?_, .c (.s _)⟩
      · rw [hex]; rfl
      · have hlk : (rows.take k).length = k := by rw [List.length_take, Nat.min_eq_left hk]
        have hlen : (rows.take k ++ news ++ rows.drop (k + news.length)).length ≤ cap := by simp only [List.length_append, List.length_drop, hlk]; omega
        have hmem : ∀ r ∈ rows.take k ++ news ++ rows.drop (k + news.length), r ∈ rows ∨ r ∈ news := fun r hr => by
          rcases List.mem_append.1 hr with hr | hr
          · rcases List.mem_append.1 hr with hr | hr
            · exact .inl (List.mem_of_mem_take hr)
            · exact .inr hr
          · exact .inl (List.mem_of_mem_drop hr)
        refine R.set (ob := .arr e sz cap rows) (ob' := .arr e sz cap (rows.take k ++ news ++ rows.drop (k + news.length))) (cob := .cells (setAll cs (k * sz) (toV (news)).flatten) e (0, 0)) hR hH hB rfl rfl (fun _ => rfl) (putBlk_size _ _) (.inr ⟨B, _, rfl, putBlk_at hh, by rw [setAll_size 0]; exact hcs, hmx, hlen, fun r hr => ?_, fun k' j' r u hk' hj' => ?_⟩)
        · rcases hmem r hr with h | h
          · exact ⟨(hrow r h).1, fun u hu => ⟨((hrow r h).2 u hu).1.mono hm, ((hrow r h).2 u hu).2⟩⟩
          · exact ⟨(hnews r h).1, fun u hu => ⟨((hnews r h).2 u hu).1.mono hm, ((hnews r h).2 u hu).2⟩⟩
        · have hj : j' < sz := by
            have hr' : r.length = sz := by
              rcases hmem r (List.mem_of_getElem? hk') with h | h
              · exact (hrow r h).1
              · exact (hnews r h).1
            rw [← hr']; exact (List.getElem?_eq_some_iff.1 hj').1
          rw [setAll_get _ _ _ _ hfit, hfl]
          rw [List.getElem?_append, List.getElem?_append] at hk'
          simp only [List.length_append, hlk] at hk'
          by_cases h1 : k' < k
          · rw [if_pos (by omega), if_pos h1, List.getElem?_take, if_pos h1] at hk'
            rw [if_neg ?_]
            · exact hcell k' j' r u hk' hj'
            · rintro ⟨w1, _⟩
              have : (k' + 1) * sz ≤ k * sz := Nat.mul_le_mul_right sz (by omega)
              rw [Nat.add_mul] at this
              omega
          · by_cases h2 : k' < k + news.length
            · rw [if_pos h2, if_neg h1] at hk'
              have w1 : k * sz ≤ k' * sz := Nat.mul_le_mul_right sz (by omega)
              have w2 : (k' + 1) * sz ≤ (k + news.length) * sz := Nat.mul_le_mul_right sz (by omega)
              rw [Nat.add_mul, Nat.add_mul k] at w2
              rw [if_pos ⟨by omega, by omega⟩]
              have hr2 : (toV (news))[k' - k]? = some (r.map CV.den) := by unfold toV; rw [List.getElem?_map, hk']; rfl
              have hu2 : (r.map CV.den)[j']? = some u.den := by rw [List.getElem?_map, hj']; rfl
              have := flatten_at _ hns _ _ hr2 _ _ hu2
              rw [Nat.sub_mul] at this
              rw [show k' * sz + j' - k * sz = k' * sz - k * sz + j' from by omega]
              exact this
            · rw [if_neg h2, List.getElem?_drop, show k + news.length + (k' - (k + news.length)) = k' from by omega] at hk'
              rw [if_neg ?_]
              · exact hcell k' j' r u hk' hj'
              · rintro ⟨_, w2⟩
                have : (k + news.length) * sz ≤ k' * sz := Nat.mul_le_mul_right sz (by omega)
                rw [Nat.add_mul] at this
                omega
/-- copy out of an array of the call's own. -/
theorem ef_copyo {t t' e e2 : TypeId} {sz d : Nat} {x y : Operand} {b k n c cap b2 k2 m2 c2 cap2 : Nat} {rows rows2 news R2 : List (List CV)} (ho : o.op = .call { callee := .builtin .copy, args := #[x, y], argTypes := #[t, t'] }) (hd : o.dst = some d) (hN : d < N) (hE : ElemTy P t e sz)
    (hx : ev F x = some (.o b k n c)) (hH : H[b]? = some (.arr e sz cap rows)) (hk : k ≤ rows.length) (hy : ev F y = some (.o b2 k2 m2 c2)) (hH2 : H[b2]? = some (.arr e2 sz cap2 rows2)) (hn : (rows2.drop k2).take (min m2 n) = news) (hl : news.length = min m2 n) (hR2 : rows.take k ++ news ++ rows.drop (k + news.length) = R2) :
    Ef P N E o F H fun F' H' => F' = (d, .c (.s (.int .i64 (news.length : Nat)))) :: F ∧ H' = H.set b (.arr e sz cap R2) := by
  subst hR2
  refine ef_copyg (m := m2) ho hd hN hE hx hH hk hl.symm fun S ρ a w hR => ?_
  obtain ⟨g1, g2⟩ := hR.ev hy
  cases g2 with
  | o q0 q1 q2 q3 =>
    have hw : WF w S ρ H (.o b2 k2 (min m2 n) c2) := .o q0 (by omega) q2 (fun h => by have := q3 h; omega)
    obtain ⟨A, c', hv, hsl, hnews⟩ := hR.src hw (Src.own hH2 hn hl)
    rw [AV.den] at hv
    injection hv with hA _ _
    exact ⟨A, c2, by rw [g1, AV.den, hA], hsl, hnews⟩
end
end Go.Proofs.YtdmeohgojdfmoaaGreatDoor
