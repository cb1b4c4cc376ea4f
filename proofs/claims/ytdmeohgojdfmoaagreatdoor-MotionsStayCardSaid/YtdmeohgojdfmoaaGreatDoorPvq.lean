/- append of zeros to no rows, where there is no room; slices.overlaps of two blocks of the call's own. -/
import Derived.Test.YtdmeohgojdfmoaaGreatDoorPvp
import Derived.Lib.Overlaps
import Derived.Lib.AppendZeros
set_option linter.unusedSimpArgs false
set_option linter.unusedVariables false
namespace Go.Proofs.YtdmeohgojdfmoaaGreatDoor
open Go Go.RowKit
section
variable {P : Program} {N : Nat} {E : Env} {F : Fm} {H : List OB} {o : Oper} {S : Nat → Prop} {ρ : List (Option Nat)} {a : Act} {w : World}
theorem run_app_zeros (w : World) (t tn ty e : TypeId) (i : TypeInfo) (z : Value) (k kn : IntKind) (ht : P.underlying t = some (.slice e)) (htn : P.underlying tn = some (.int kn)) (hi : P.info? e = some i) (hz : i.zero = some z)
    (A : Option Addr) (c n : Nat) (h0 : c < n) (hs : 0 < i.size) (h63 : (n : Int) ≤ 9223372036854775807) (h48 : 2 * n * i.bytes ≤ 281474976710656) :
    (Builtin.append_ #[t, tn] ty #[.slice A 0 c, .int k n]).run P w =
      .ok (.slice (some ⟨w.heap.size, 0, none⟩) n (grownCap w n c e)) (w.drew.alloc (.cells (Builtin.zeroCells z.cells n ++ Builtin.zeroCells z.cells (grownCap w n c e - n)) e)) := by
  have hn : n ≠ 0 := by omega
  have hw : IntKind.i64.wrap (n : Int) = n := by rw [IntKind.wrap_i64]; omega
  have h63' : ¬ (9223372036854775807 < (n : Int)) := by omega
  have hle := nextslicecap_le h0
  have h48' : ¬ (281474976710656 < Builtin.nextslicecap n c * i.bytes) := by
    have : Builtin.nextslicecap n c * i.bytes ≤ 2 * n * i.bytes := Nat.mul_le_mul_right _ hle
    omega
  have h48i : ¬ (281474976710656 < (n : Int) * (i.bytes : Int)) := by
    rw [← Int.natCast_mul]
    have : n * i.bytes ≤ 2 * n * i.bytes := Nat.mul_le_mul_right _ (by omega)
    omega
  have hneg : ¬ ((n : Int) < 0) := by omega
  have hns : ¬ (n * i.size = 0) := Nat.mul_ne_zero hn (by omega)
  have hroom : ¬ n ≤ c := by omega
  have hf : ∀ w, (Builtin.firstCells i.size 0 (.slice A 0 c)).run P w = .ok #[] w := fun w => by
    cases A with
    | none => exact run_firstCells_none w _ _ _ _
    | some q => exact run_firstCells_some w i.size 0 q 0 c [] (by simp) (fun j v h => by simp at h)
  simp [Builtin.append_, run_underlying ht, run_underlying htn, sizeOf, typeInfo, zeroValue, hi, hz, asInt, asIntOf, hw, hn, hneg, hns, h63', h48', h48i, hroom, Question.forced, hf, newRow, grownCap]
theorem ef_appz {t tn e : TypeId} {sz d b k c cap n : Nat} {kx kn : IntKind} {zi : Int} {s x : Operand} {z : Value} {vs : List Value} {rows : List (List CV)} (ho : o.op = .call { callee := .builtin .append, args := #[s, x], argTypes := #[t, tn] }) (hd : o.dst = some d) (hN : d < N)
    (hE : ElemTy P t e sz) (htn : P.underlying tn = some (.int kn)) (hs : ev F s = some (.o b k 0 c)) (hH : H[b]? = some (.arr e sz cap rows)) (hx : ev F x = some (.c (.s (.int kx zi)))) (hzi : zi = n) (hn : c < n) (hle : n ≤ 1000000000)
    (hz : (P.info? e).bind (·.zero) = some z) (hvs : z.cells = vs.toArray) (h1 : vs.all Value.oneCell' = true) :
    Ef P N E o F H fun F' H' => ∃ c2, n ≤ c2 ∧ F' = (d, .o H.length 0 n c2) :: F ∧ H' = H ++ [.arr e sz c2 (List.replicate n (vs.map cvOf))] := fun S ρ a w hR => by
  subst hzi
  obtain ⟨g1, _⟩ := hR.ev hs
  obtain ⟨g3, _⟩ := hR.ev hx
  obtain ⟨inf, z', hi, hz', hsz, hby, hzs⟩ := hE.hi
  obtain rfl : z' = z := by rw [hi] at hz; simp only [Option.bind_some] at hz; rw [hz'] at hz; exact Option.some.inj hz
  have hrun := run_app_zeros (P := P) w t tn o.type e inf z' kx kn hE.ht htn hi hz' ((AV.o b k 0 c).den ρ H |> fun v => match v with | .slice A _ _ => A | _ => none) c n hn (by rw [hsz]; exact hE.hsz) (by omega) (by
    have : 2 * n * inf.bytes ≤ 2 * n * 256 := Nat.mul_le_mul_left _ hby
    omega)
  have hge := grownCap_ge w n c e
  have hcm : grownCap w n c e ≤ maxLen := grownCap_le_maxLen w n c e (by simp only [maxLen]; omega)
  have hvl : vs.length = sz := by rw [← hzs, hvs]; simp
  unfold effO
  have hex : (execOp a.eval o).run P w = .ok (.value (.slice (some ⟨w.heap.size, 0, none⟩) n (grownCap w n c e))) (w.drew.alloc (.cells (Builtin.zeroCells z'.cells n ++ Builtin.zeroCells z'.cells (grownCap w n c e - n)) e)) := by
    unfold execOp
    simp only [AV.den, CV.den] at g1 g3 hrun
    simp only [ho, resolve, invoke, builtin, Sem.run_bind, Sem.run_pure, Result.andThen_ok, List.map_toArray, List.map_cons, List.map_nil, g1, g3, hrun]
  rw [hex]
  have hR2 := hR.drew
  have hob : OwnB (w.drew.alloc (.cells (Builtin.zeroCells z'.cells n ++ Builtin.zeroCells z'.cells (grownCap w n c e - n)) e)) S (ρ ++ [some w.drew.heap.size]) (H ++ [.arr e sz (grownCap w n c e) (List.replicate n (vs.map cvOf))]) (.arr e sz (grownCap w n c e) (List.replicate n (vs.map cvOf))) (some w.drew.heap.size) := by
    refine .inr ⟨_, _, rfl, heap_new _ _, ?_, hcm, by simpa using hge, fun row hrow => ?_, fun k' j row u hk hj => ?_⟩
    · simp only [Array.size_append, size_zeroCells, hzs, ← Nat.add_mul]
      congr 1; omega
    · have := List.eq_of_mem_replicate hrow
      subst this
      refine ⟨by simp [hvl], fun u hu => ?_⟩
      obtain ⟨v, hv, rfl⟩ := List.mem_map.1 hu
      exact ⟨cvOf_good _ _ _, by rw [cvOf_den]; exact List.all_eq_true.1 h1 v hv⟩
    · rw [List.getElem?_replicate] at hk
      split at hk
      · rename_i hkc
        injection hk with hk
        subst hk
        rw [List.getElem?_map] at hj
        cases hv : vs[j]? with
        | none => rw [hv] at hj; cases hj
        | some v =>
          rw [hv] at hj
          simp only [Option.map_some, Option.some.injEq] at hj
          subst hj
          have hjl : j < sz := by rw [← hvl]; exact (List.getElem?_eq_some_iff.1 hv).1
          have hlt : k' * sz + j < n * sz := by
            have : (k' + 1) * sz ≤ n * sz := Nat.mul_le_mul_right sz hkc
            rw [Nat.add_mul] at this
            omega
          rw [cvOf_den, Array.getElem?_append, if_pos (by rw [size_zeroCells, hzs]; exact hlt)]
          have hlt' : k' * sz + j < n * z'.cells.size := by rw [hzs]; exact hlt
          simp only [Builtin.zeroCells, Array.getElem?_map, Array.getElem?_range, hlt', if_true, Option.map_some]
          rw [hzs, show (k' * sz + j) % sz = j from by rw [Nat.add_comm, Nat.add_mul_mod_self_right, Nat.mod_eq_of_lt hjl]]
          congr 1
          have : z'.cells[j]? = some v := by rw [hvs]; simpa using hv
          rw [getElem!_def, this]
      · cases hk
  have hR3 := hR2.new _ e _ hob
  refine ⟨S, ρ ++ [some w.drew.heap.size], _, _, ⟨grownCap w n c e, hge, rfl, rfl⟩, ?_⟩
  rw [hd]
  have := hR3.put hN (wf_snoc_o hR2.hp (ob := .arr e sz (grownCap w n c e) (List.replicate n (vs.map cvOf))) (n := n) (c := grownCap w n c e) hge (Nat.le_refl _))
  rw [den_snoc_o hR2.hp] at this
  exact this
theorem rd_overlaps {f : FuncId} {fn : Func} {x y : Operand} {t tr e e' : TypeId} {sz b k n c b' k' n' c' cap cap' : Nat} {rows rows' : List (List CV)} {tys : Array TypeId} (ho : o.op = .call { callee := .value (.func f), args := #[x, y], argTypes := tys })
    (hf : P.funcs[f]? = some fn) (hname : (fn.name == "runtime.NumGoroutine") = false) (hb : fn.body.isNone = true) (hnx : Extern.findNext fn = none) (he : Extern.find fn = some (Extern.SlicesOverlaps.overlaps #[t, t] #[tr])) (hE : ElemTy P t e sz)
    (hx : ev F x = some (.o b k n c)) (hy : ev F y = some (.o b' k' n' c')) (hH : H[b]? = some (.arr e sz cap rows)) (hH' : H[b']? = some (.arr e' sz cap' rows')) (hne : b ≠ b') (hn0 : 0 < n) (hn : 0 < n') : Rd P N E o F H (.c (.s (.bool false))) := fun S ρ a w hR => by
  obtain ⟨g1, g2⟩ := hR.ev hx
  obtain ⟨g3, g4⟩ := hR.ev hy
  obtain ⟨inf, z, hi, hz, hs, hby, hzs⟩ := hE.hi
  have hsize : ∀ w, (sizeOf e).run P w = .ok sz w := fun w => by simp [sizeOf, typeInfo, hi, hs]
  refine ⟨?_, .c (.s _)⟩
  have fin : (Extern.SlicesOverlaps.overlaps #[t, t] #[tr] #[(AV.o b k n c).den ρ H, (AV.o b' k' n' c').den ρ H]).run P w = .ok (.bool false) w → (execOp a.eval o).run P w = .ok (.value ((AV.c (.s (.bool false))).den ρ H)) w := fun hr => by
    have hf0 : a.eval (.func f) = .func (.func f) #[] #[] := rfl
    have hcf := run_callFunc_extern hf hname hb hnx he #[(AV.o b k n c).den ρ H, (AV.o b' k' n' c').den ρ H] w
    rw [hr] at hcf
    unfold execOp
    simp only [ho, resolve, hf0, Deferred.ofValue, Sem.run_bind, Sem.run_pure, Result.andThen_ok, List.map_toArray, List.map_cons, List.map_nil, g1, g3, invoke, Array.append_empty, Array.empty_append, hcf]
    rfl
  refine fin ?_
  cases g2 with
  | o q0 q1 q2 q3 =>
    cases g4 with
    | o p0 p1 p2 p3 =>
      cases hB : atB ρ b with
      | none =>
        have := (q3 hB).1; omega
      | some B =>
        cases hB' : atB ρ b' with
        | none => have := (p3 hB').1; omega
        | some B' =>
          rcases hR.hp.blk _ _ hH with ⟨h0, _, _⟩ | ⟨B1, cs, hB1, hh, hcs, _⟩
          · rw [hB] at h0; cases h0
          rcases hR.hp.blk _ _ hH' with ⟨h0, _, _⟩ | ⟨B2, cs', hB2, hh', hcs', _⟩
          · rw [hB'] at h0; cases h0
          obtain rfl : B = B1 := by rw [hB] at hB1; injection hB1
          obtain rfl : B' = B2 := by rw [hB'] at hB2; injection hB2
          have hBB : B ≠ B' := fun h => hne (hR.hp.nd _ _ _ hB (h ▸ hB'))
          have hcp : capAt H b' = cap' := by unfold capAt; rw [hH']; rfl
          have hk0 : cs'.size ≠ 0 := by
            rw [hcs']
            rw [hcp] at p2
            exact Nat.mul_ne_zero (by omega) (by have := hE.hsz; omega)
          simp only [AV.den, hB, hB', Option.map_some]
          exact Lib.run_overlaps_apart w t tr e hE.ht sz hsize _ _ n c n' c' hBB e e' cs.size cs'.size (by simp [World.shape?, hh]) (by simp [World.shape?, hh']) hk0 (by simp [World.frozen?, hh]) (by simp [World.frozen?, hh])
end
end Go.Proofs.YtdmeohgojdfmoaaGreatDoor
