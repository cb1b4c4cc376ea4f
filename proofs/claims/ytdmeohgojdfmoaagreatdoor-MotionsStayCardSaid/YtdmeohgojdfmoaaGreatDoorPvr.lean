/- append of zeros behind some rows, where there is no room. -/
import Derived.Test.YtdmeohgojdfmoaaGreatDoorPvq
import Derived.Lib.AppendZerosOnto
set_option linter.unusedSimpArgs false
set_option linter.unusedVariables false
namespace Go.Proofs.YtdmeohgojdfmoaaGreatDoor
open Go Go.RowKit
section
variable {P : Program} {N : Nat} {E : Env} {F : Fm} {H : List OB} {o : Oper} {S : Nat → Prop} {ρ : List (Option Nat)} {a : Act} {w : World}
theorem ef_appzo {t tn e : TypeId} {sz d b i c cap n : Nat} {kx kn : IntKind} {zi : Int} {s x : Operand} {z : Value} {vs : List Value} {rows : List (List CV)} (ho : o.op = .call { callee := .builtin .append, args := #[s, x], argTypes := #[t, tn] }) (hd : o.dst = some d) (hN : d < N)
    (hE : ElemTy P t e sz) (htn : P.underlying tn = some (.int kn)) (hs : ev F s = some (.o b 0 i c)) (hH : H[b]? = some (.arr e sz cap rows)) (hi0 : i ≤ rows.length) (hx : ev F x = some (.c (.s (.int kx zi)))) (hzi : zi = n) (hn0 : 0 < n) (hn : c < i + n) (hle : i + n ≤ 1000000000)
    (hz : (P.info? e).bind (·.zero) = some z) (hvs : z.cells = vs.toArray) (h1 : vs.all Value.oneCell' = true) :
    Ef P N E o F H fun F' H' => ∃ c2, i + n ≤ c2 ∧ F' = (d, .o H.length 0 (i + n) c2) :: F ∧ H' = H ++ [.arr e sz c2 (rows.take i ++ List.replicate n (vs.map cvOf))] := fun S ρ a w hR => by
  subst hzi
  obtain ⟨g1, g2⟩ := hR.ev hs
  obtain ⟨g3, _⟩ := hR.ev hx
  obtain ⟨inf, z', hi, hz', hsz, hby, hzs⟩ := hE.hi
  obtain rfl : z' = z := by rw [hi] at hz; simp only [Option.bind_some] at hz; rw [hz'] at hz; exact Option.some.inj hz
  have hli : (rows.take i).length = i := by simp; omega
  have hR2 := hR.drew
  obtain ⟨A, c', hv, hsl, hnews⟩ := hR2.src (hR2.ev hs).2 (Src.own (news := rows.take i) hH (by simp) hli)
  have hden : (AV.o b 0 i c).den ρ H = .slice A i c := by
    rw [hli] at hv
    rw [AV.den] at hv ⊢
    injection hv with h1 h2 h3
    rw [h1]
  have hll : ∀ r ∈ toV (rows.take i), r.length = sz := toV_len fun row hr => (hnews row hr).1
  have hfirst := run_first (P := P) (c := c) (m := i) hE.hsz hsl hll (cnt := i) (by simp [toV]; omega)
  rw [show (toV (rows.take i)).take i = toV (rows.take i) from List.take_of_length_le (by simp [toV]; omega)] at hfirst
  have hnle := nextslicecap_le hn
  have hrun := Lib.run_append_grow_zeros (P := P) w t tn o.type e inf z' kx kn hE.ht htn hi hz' A i c (toV (rows.take i)).flatten (by rw [hsz]; exact hfirst) n hn0 (by rw [hsz]; exact hE.hsz) hn (by omega) (by
    have : n * inf.bytes ≤ n * 256 := Nat.mul_le_mul_left _ hby
    omega) (by
    have h2 : Builtin.nextslicecap (i + n) c * inf.bytes ≤ (2 * (i + n)) * 256 := Nat.mul_le_mul hnle hby
    omega)
  have hge := grownCap_ge w (i + n) c e
  have hcm : grownCap w (i + n) c e ≤ maxLen := grownCap_le_maxLen w (i + n) c e (by simp only [maxLen]; omega)
  have hvl : vs.length = sz := by rw [← hzs, hvs]; simp
  have hfl : ((toV (rows.take i)).flatten).length = i * sz := by rw [flat_len _ hll]; simp [toV]; rw [Nat.min_eq_left hi0]
  unfold effO
  have hex : (execOp a.eval o).run P w = .ok (.value (.slice (some ⟨w.heap.size, 0, none⟩) (i + n) (grownCap w (i + n) c e))) (w.drew.alloc (.cells ((toV (rows.take i)).flatten.toArray ++ Builtin.zeroCells z'.cells n ++ Builtin.zeroCells z'.cells (grownCap w (i + n) c e - (i + n))) e)) := by
    unfold execOp
    rw [hden] at g1
    simp only [AV.den, CV.den] at g1 g3
    simp only [ho, resolve, invoke, builtin, Sem.run_bind, Sem.run_pure, Result.andThen_ok, List.map_toArray, List.map_cons, List.map_nil, g1, g3, hrun]
  rw [hex]
  have hob : OwnB (w.drew.alloc (.cells ((toV (rows.take i)).flatten.toArray ++ Builtin.zeroCells z'.cells n ++ Builtin.zeroCells z'.cells (grownCap w (i + n) c e - (i + n))) e)) S (ρ ++ [some w.drew.heap.size]) (H ++ [.arr e sz (grownCap w (i + n) c e) (rows.take i ++ List.replicate n (vs.map cvOf))]) (.arr e sz (grownCap w (i + n) c e) (rows.take i ++ List.replicate n (vs.map cvOf))) (some w.drew.heap.size) := by
    have hmo : Mo w.drew S (w.drew.alloc (.cells ((toV (rows.take i)).flatten.toArray ++ Builtin.zeroCells z'.cells n ++ Builtin.zeroCells z'.cells (grownCap w (i + n) c e - (i + n))) e)) S := fun k hk => ⟨hk, heap_alloc_old _ _ (hR2.hp.sS k hk)⟩
    refine .inr ⟨_, _, rfl, heap_new _ _, ?_, hcm, by simp; omega, fun row hrow => ?_, fun k' j row u hk hj => ?_⟩
    · simp only [Array.size_append, size_zeroCells, hzs, List.size_toArray, hfl, ← Nat.add_mul]
      congr 1; omega
    · rcases List.mem_append.1 hrow with hrow | hrow
      · refine ⟨(hnews row hrow).1, fun u hu => ⟨((hnews row hrow).2 u hu).1.mono hmo, ((hnews row hrow).2 u hu).2⟩⟩
      · have := List.eq_of_mem_replicate hrow
        subst this
        refine ⟨by simp [hvl], fun u hu => ?_⟩
        obtain ⟨v, hv, rfl⟩ := List.mem_map.1 hu
        exact ⟨cvOf_good _ _ _, by rw [cvOf_den]; exact List.all_eq_true.1 h1 v hv⟩
    · rw [List.getElem?_append, hli] at hk
      split at hk
      · rename_i hki
        have hrl : row.length = sz := (hnews row (List.mem_of_getElem? hk)).1
        have hjl : j < sz := by rw [← hrl]; exact (List.getElem?_eq_some_iff.1 hj).1
        have hlt : k' * sz + j < i * sz := by
          have : (k' + 1) * sz ≤ i * sz := Nat.mul_le_mul_right sz hki
          rw [Nat.add_mul] at this
          omega
        have := flatten_back (rows.take i) (fun r hr => (hnews r hr).1) rfl k' j row u hk hj
        rw [Array.append_assoc, Array.getElem?_append, if_pos (by simpa [hfl] using hlt), List.getElem?_toArray]
        exact this
      · rename_i hki
        rw [List.getElem?_replicate] at hk
        split at hk
        · rename_i hkc
          injection hk with hk
          subst hk
          rw [List.getElem?_map] at hj
          cases hv : vs[j]? with
          | none => rw [hv] at hj; cases hj
          | some v =>
            rw [hv] at hj
            simp only [Option.map_some, Option.some.injEq] at hj
            subst hj
            have hjl : j < sz := by rw [← hvl]; exact (List.getElem?_eq_some_iff.1 hv).1
            obtain ⟨q, rfl⟩ : ∃ q, k' = i + q := ⟨k' - i, by omega⟩
            have hq : q < n := by omega
            have hlt : q * sz + j < n * sz := by
              have : (q + 1) * sz ≤ n * sz := Nat.mul_le_mul_right sz hq
              rw [Nat.add_mul] at this
              omega
            have hsub : (i + q) * sz + j - i * sz = q * sz + j := by rw [Nat.add_mul]; omega
            rw [cvOf_den, Array.append_assoc, Array.getElem?_append, if_neg (by simp only [List.size_toArray, hfl, Nat.not_lt]; rw [Nat.add_mul]; omega), List.size_toArray, hfl, hsub, Array.getElem?_append, if_pos (by rw [size_zeroCells, hzs]; exact hlt)]
            have hlt' : q * sz + j < n * z'.cells.size := by rw [hzs]; exact hlt
            simp only [Builtin.zeroCells, Array.getElem?_map, Array.getElem?_range, hlt', if_true, Option.map_some]
            rw [hzs, show (q * sz + j) % sz = j from by rw [Nat.add_comm, Nat.add_mul_mod_self_right, Nat.mod_eq_of_lt hjl]]
            congr 1
            have : z'.cells[j]? = some v := by rw [hvs]; simpa using hv
            rw [getElem!_def, this]
        · cases hk
  have hR3 := hR2.new _ e _ hob
  refine ⟨S, ρ ++ [some w.drew.heap.size], _, _, ⟨grownCap w (i + n) c e, hge, rfl, rfl⟩, ?_⟩
  rw [hd]
  have := hR3.put hN (wf_snoc_o hR2.hp (ob := .arr e sz (grownCap w (i + n) c e) (rows.take i ++ List.replicate n (vs.map cvOf))) (n := i + n) (c := grownCap w (i + n) c e) hge (Nat.le_refl _))
  rw [den_snoc_o hR2.hp] at this
  exact this
end
end Go.Proofs.YtdmeohgojdfmoaaGreatDoor
