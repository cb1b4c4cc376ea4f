/- The logic over values: the operations that only read. -/
import Derived.Test.YtcchlddiggmcaaaGreatDoorQad
set_option linter.unusedSimpArgs false
set_option linter.unusedVariables false
namespace Go.Proofs.YtcchlddiggmcaaaGreatDoor
open Go Go.RowKit
section
variable {P : Program} {N : Nat} {E : Env} {F : Fm} {H : List OB} {o : Oper}
theorem rd_move {x : Operand} {v : AV} (ho : o.op = .move x) (hx : ev F x = some v) : Rd P N E o F H v := fun S ρ a w hR => by
 obtain ⟨h1, h2⟩ := hR.ev hx
 exact ⟨by simp [execOp, ho, h1], h2⟩
theorem rd_assign {x : Operand} {v : AV} (ho : o.op = .assign x) (hx : ev F x = some v) : Rd P N E o F H v := fun S ρ a w hR => by
 obtain ⟨h1, h2⟩ := hR.ev hx
 exact ⟨by simp [execOp, ho, h1], h2⟩
theorem rd_pick_t {c x y : Operand} {v : AV} (ho : o.op = .pick c x y) (hc : ev F c = some (.c (.s (.bool true)))) (hx : ev F x = some v) : Rd P N E o F H v := fun S ρ a w hR => by
 obtain ⟨h1, h2⟩ := hR.ev hx
 have h3 := (hR.ev hc).1
 simp only [AV.den, CV.den] at h3
 exact ⟨by simp [execOp, ho, h1, h3, asBool], h2⟩
theorem rd_pick_f {c x y : Operand} {v : AV} (ho : o.op = .pick c x y) (hc : ev F c = some (.c (.s (.bool false)))) (hy : ev F y = some v) : Rd P N E o F H v := fun S ρ a w hR => by
 obtain ⟨h1, h2⟩ := hR.ev hy
 have h3 := (hR.ev hc).1
 simp only [AV.den, CV.den] at h3
 exact ⟨by simp [execOp, ho, h1, h3, asBool], h2⟩
theorem rd_load {t : TypeId} {x : Operand} {v y : AV} {cs : List AV} (ho : o.op = .load t x) (ht : ldk P t = some none) (hx : ev F x = some v) (hc : Cells H v (y :: cs)) : Rd P N E o F H y := fun S ρ a w hR => by
 obtain ⟨h1, h2⟩ := hR.ev hx
 obtain ⟨B, off, hd, hcell⟩ := hR.cells h2 hc
 obtain ⟨h3, h4⟩ := hcell 0 y rfl
 rw [Nat.add_zero] at h3
 refine ⟨?_, h4⟩
 simp [execOp, ho, h1, hd, Instr.loadAt, Instr.sureAddr, loadVar, (ldk_none (w := w) ht).1, h3]
theorem rd_loada {t : TypeId} {x : Operand} {v : AV} {cs : List AV} {n : Nat} (ho : o.op = .load t x) (ht : ldk P t = some (some n)) (hx : ev F x = some v) (hc : Cells H v cs) (hn : n ≤ cs.length) : Rd P N E o F H (.a (cs.take n)) := fun S ρ a w hR => by
 obtain ⟨h1, h2⟩ := hR.ev hx
 obtain ⟨B, off, hd, hcell⟩ := hR.cells h2 hc
 have hl := zo1 (P := P) (w := w) (B := B) (off := off) (vs := cs.map (AV.den ρ H)) n 0 #[] (fun k hk => by
  have hkl : k < cs.length := by omega
  rw [Nat.zero_add, (hcell k cs[k] (List.getElem?_eq_getElem hkl)).1]
  simp [hkl]) (by simpa using hn)
 refine ⟨?_, .a (fun x hx => ?_)⟩
 ·simp only [execOp, ho, h1, hd, Instr.loadAt, Instr.sureAddr, loadVar, loadCells, Sem.run_bind, Sem.run_pure, Result.andThen_ok, (zb2 (w := w) ht).1, (zb2 (w := w) ht).2, hl, if_true, List.drop_zero, AV.den, AV.denL_eq, List.map_take]
  simp
 ·obtain ⟨i, hi⟩ := List.getElem?_of_mem (List.mem_of_mem_take hx)
  exact (hcell i x hi).2
def fieldOff (P : Program) (t : TypeId) (f : Nat) : Option Nat :=
 match P.underlying t with
 | some (.struct fs) => match fs[f]? with
  | some g => match P.info? g.type with
   | some i => if i.size = 0 then none else some g.offset
   | none => none
  | none => none
 | _ => none
theorem run_fieldAt {t : TypeId} {f off j B : Nat} {w : World} (h : fieldOff P t f = some off) : (Instr.fieldAt t (.pointer (some ⟨B, j, none⟩)) f).run P w = .ok (.pointer (some ⟨B, j + off, none⟩)) w := by
 unfold fieldOff at h
 cases hu : P.underlying t with
 | none => rw [hu] at h; cases h
 | some d =>
  rw [hu] at h
  cases d <;> simp at h
  rename_i fs
  cases hf : fs[f]? with
  | none => rw [hf] at h; cases h
  | some g =>
   rw [hf] at h
   simp only at h
   cases hi : P.info? g.type with
   | none => rw [hi] at h; cases h
   | some i =>
    rw [hi] at h
    simp only at h
    split at h
    ·cases h
    ·rename_i hs
     injection h with h
     have hu' : (underlying t).run P w = .ok (.struct fs) w := by unfold underlying; simp [hu]
     have hz : (sizeOf g.type).run P w = .ok i.size w := by simp [sizeOf, typeInfo, hi]
     unfold Instr.fieldAt
     simp only [Sem.run_bind, hu', Result.andThen_ok, hf, Instr.sureAddr, Sem.run_pure, fieldPlace, hz, hs, if_false, h]
     unfold Addr.add
     split
     ·rename_i h0; subst h0; simp
     ·rfl
theorem rd_field {t : TypeId} {x : Operand} {f b k j off : Nat} (ho : o.op = .fieldAddr t x f) (hx : ev F x = some (.p b k j)) (ht : fieldOff P t f = some off) : Rd P N E o F H (.p b k (j + off)) := fun S ρ a w hR => by
 obtain ⟨h1, h2⟩ := hR.ev hx
 cases h2 with
 | p h0 h =>
  obtain ⟨B, hB⟩ := Option.isSome_iff_exists.1 h
  refine ⟨?_, .p h0 h⟩
  simp [execOp, ho, h1, AV.den, hB, run_fieldAt ht, Nat.add_assoc]
theorem rd_fieldq {t : TypeId} {x : Operand} {f k sz j off : Nat} {v : Value} {row : List CV} (ho : o.op = .fieldAddr t x f) (hx : ev F x = some (.q v k sz row j)) (ht : fieldOff P t f = some off) : Rd P N E o F H (.q v k sz row (j + off)) := fun S ρ a w hR => by
 obtain ⟨h1, h2⟩ := hR.ev hx
 cases h2 with
 | q g1 g2 g3 =>
  refine ⟨?_, .q g1 g2 g3⟩
  simp [execOp, ho, h1, AV.den, run_fieldAt ht, Nat.add_assoc]
def elemSz (P : Program) (t : TypeId) : Option (TypeId × Nat) :=
 match P.underlying t with
 | some (.slice e) => match P.info? e with
  | some i => some (e, i.size)
  | none => none
 | _ => none
theorem zG {t e : TypeId} {sz : Nat} (h : elemSz P t = some (e, sz)) : P.underlying t = some (.slice e) ∧ ∃ i, P.info? e = some i ∧ i.size = sz := by
 unfold elemSz at h
 cases hu : P.underlying t with
 | none => rw [hu] at h; cases h
 | some d =>
  rw [hu] at h
  cases d <;> simp at h
  rename_i e'
  cases hi : P.info? e' with
  | none => rw [hi] at h; cases h
  | some i =>
   rw [hi] at h
   simp at h
   obtain ⟨rfl, rfl⟩ := h
   exact ⟨rfl, i, hi, rfl⟩
theorem run_indexAt {t e : TypeId} {sz B off n c i : Nat} {kd : IntKind} {w : World} (h : elemSz P t = some (e, sz)) (hi : i < n) :
    (Instr.indexAt t (.slice (some ⟨B, off, none⟩) n c) (.int kd i)).run P w = .ok (.pointer (some ⟨B, off + i * sz, none⟩)) w := by
 obtain ⟨hu, inf, hinf, hs⟩ := zG h
 have hu' : (underlying t).run P w = .ok (.slice e) w := by unfold underlying; simp [hu]
 have hz : (sizeOf e).run P w = .ok sz w := by simp [sizeOf, typeInfo, hinf, hs]
 unfold Instr.indexAt
 simp only [asIntOf, Sem.run_bind, Sem.run_pure, hu', Result.andThen_ok, hz]
 rw [if_pos (by omega)]
 simp only [Sem.run_bind, hz, Result.andThen_ok, Sem.run_pure, Int.toNat_natCast]
 unfold Addr.add
 split
 ·rename_i h0; simp [h0]
 ·rfl
theorem rd_index {t e : TypeId} {x ix : Operand} {b k n c i sz cap : Nat} {kd : IntKind} {z : Int} {rows : List (List CV)} (ho : o.op = .indexAddr t x ix) (ht : elemSz P t = some (e, sz)) (hx : ev F x = some (.o b k n c)) (hH : H[b]? = some (.arr e sz cap rows)) (hix : ev F ix = some (.c (.s (.int kd z))))
    (hz : z = i) (hi : i < n) : Rd P N E o F H (.p b (k + i) 0) := fun S ρ a w hR => by
 obtain ⟨h1, h2⟩ := hR.ev hx
 have h3 := (hR.ev hix).1
 simp only [AV.den, CV.den] at h3
 have hsz : szAt H b = sz := by unfold szAt; rw [hH]; rfl
 cases h2 with
 | o g0 g1 g2 g3 =>
  cases hB : atB ρ b with
  | none => have := (g3 hB).1; omega
  | some B =>
   refine ⟨?_, .p g0 (by rw [hB]; rfl)⟩
   simp only [execOp, ho, h1, h3, AV.den, hB, Option.map_some, hsz, hz, Sem.run_bind, run_indexAt ht hi, Result.andThen_ok, Sem.run_pure, Nat.add_mul, Nat.add_zero]
theorem rd_indexq {t e : TypeId} {x ix : Operand} {i sz : Nat} {kd : IntKind} {z : Int} {v : Value} {rows : List (List CV)} {row : List CV} (ho : o.op = .indexAddr t x ix) (ht : elemSz P t = some (e, sz)) (hx : ev F x = some (.c (.r v rows))) (hix : ev F ix = some (.c (.s (.int kd z))))
    (hz : z = i) (hi : rows[i]? = some row) (hl : row.length = sz) : Rd P N E o F H (.q v i sz row 0) := fun S ρ a w hR => by
 obtain ⟨h1, h2⟩ := hR.ev hx
 have h3 := (hR.ev hix).1
 simp only [AV.den, CV.den] at h1 h3
 cases h2 with
 | c g =>
  cases g with
  | nil => simp at hi
  | r _ B off sz' n c hn hc hS hr hcell hg =>
   have hlt : i < n := by rw [← hn]; exact (List.getElem?_eq_some_iff.1 hi).1
   have hs : sz' = sz := by rw [← hl, hr row (List.mem_of_getElem? hi)]
   subst hs
   refine ⟨?_, .q hS (fun j u hu => hcell i j row u hi hu) (fun u hu => hg row (List.mem_of_getElem? hi) u hu)⟩
   simp only [execOp, ho, h1, h3, AV.den, hz, Sem.run_bind, run_indexAt ht hlt, Result.andThen_ok, Sem.run_pure, Nat.add_zero]
theorem run_len {t ty e : TypeId} {A : Option Addr} {n c : Nat} {w : World} (hu : P.underlying t = some (.slice e)) : (Builtin.len_ #[t] ty #[.slice A n c]).run P w = .ok (.int .i64 n) w := by
 have hu' : (underlying t).run P w = .ok (.slice e) w := by unfold underlying; simp [hu]
 simp [Builtin.len_, hu', goInt]
theorem rd_len {t e : TypeId} {sz : Nat} {x : Operand} {b k n c : Nat} (ho : o.op = .call { callee := .builtin .len, args := #[x], argTypes := #[t] }) (ht : elemSz P t = some (e, sz)) (hx : ev F x = some (.o b k n c)) : Rd P N E o F H (.c (.s (.int .i64 n))) := fun S ρ a w hR => by
 obtain ⟨h1, h2⟩ := hR.ev hx
 refine ⟨?_, .c (.s _)⟩
 simp [execOp, ho, resolve, invoke, builtin, h1, AV.den, CV.den, run_len (zG ht).1]
theorem rd_lenr {t e : TypeId} {sz : Nat} {x : Operand} {v : Value} {rows : List (List CV)} (ho : o.op = .call { callee := .builtin .len, args := #[x], argTypes := #[t] }) (ht : elemSz P t = some (e, sz)) (hx : ev F x = some (.c (.r v rows))) : Rd P N E o F H (.c (.s (.int .i64 rows.length))) := fun S ρ a w hR => by
 obtain ⟨h1, h2⟩ := hR.ev hx
 refine ⟨?_, .c (.s _)⟩
 have : ∃ A n c, v = .slice A n c ∧ rows.length = n := by
  cases h2 with
  | c g => cases g with
   | nil => exact ⟨_, _, _, rfl, rfl⟩
   | r _ B off sz' n c hn hc hS hr hcell hg => exact ⟨_, _, _, rfl, hn⟩
 obtain ⟨A, n, c, rfl, hn⟩ := this
 simp [execOp, ho, resolve, invoke, builtin, h1, AV.den, CV.den, run_len (zG ht).1, hn]
theorem rd_lens {t : TypeId} {x : Operand} {s : ByteArray} (ho : o.op = .call { callee := .builtin .len, args := #[x], argTypes := #[t] }) (ht : P.underlying t = some .string) (hx : ev F x = some (.c (.s (.string s)))) : Rd P N E o F H (.c (.s (.int .i64 s.size))) := fun S ρ a w hR => by
 obtain ⟨h1, h2⟩ := hR.ev hx
 refine ⟨?_, .c (.s _)⟩
 have hu' : (underlying t).run P w = .ok .string w := by unfold underlying; simp [ht]
 simp [execOp, ho, resolve, invoke, builtin, h1, AV.den, CV.den, Builtin.len_, hu', goInt]
theorem rd_extract {x : Operand} {i : Nat} {l : List AV} {v : AV} (ho : o.op = .extract x i) (hx : ev F x = some (.t l)) (hi : l[i]? = some v) : Rd P N E o F H v := fun S ρ a w hR => by
 obtain ⟨h1, h2⟩ := hR.ev hx
 cases h2 with
 | t g =>
  refine ⟨?_, g v (List.mem_of_getElem? hi)⟩
  simp [execOp, ho, h1, AV.den, AV.denL_eq, Instr.extract, hi]
theorem rd_nil {x : Operand} {b k j : Nat} (ho : o.op = .nilCheck x) (hx : ev F x = some (.p b k j)) : Rd P N E o F H (.p b k j) := fun S ρ a w hR => by
 obtain ⟨h1, h2⟩ := hR.ev hx
 cases h2 with
 | p h0 h =>
  obtain ⟨B, hB⟩ := Option.isSome_iff_exists.1 h
  refine ⟨?_, .p h0 h⟩
  simp [execOp, ho, h1, AV.den, hB]
theorem rd_nilq {x : Operand} {k sz j : Nat} {v : Value} {row : List CV} (ho : o.op = .nilCheck x) (hx : ev F x = some (.q v k sz row j)) : Rd P N E o F H (.q v k sz row j) := fun S ρ a w hR => by
 obtain ⟨h1, h2⟩ := hR.ev hx
 cases h2 with
 | q g1 g2 g3 =>
  refine ⟨?_, .q g1 g2 g3⟩
  simp [execOp, ho, h1, AV.den]
def ptS : Value → Value
 | .pointer a => .slice a 1 1
 | v => v
theorem rd_nilcp {x : Operand} {v : Value} {row : List CV} (ho : o.op = .nilCheck x) (hx : ev F x = some (.c (.p v row))) : Rd P N E o F H (.c (.p v row)) := fun S ρ a w hR => by
 obtain ⟨h1, h2⟩ := hR.ev hx
 cases h2 with
 | c g =>
  refine ⟨?_, .c g⟩
  cases g with
  | p row b off hS hcell hg => simp [execOp, ho, h1, AV.den, CV.den]
theorem rd_fieldcp {t : TypeId} {x : Operand} {f off : Nat} {v : Value} {row : List CV} (ho : o.op = .fieldAddr t x f) (hx : ev F x = some (.c (.p v row))) (ht : fieldOff P t f = some off) : Rd P N E o F H (.q (ptS v) 0 1 row off) := fun S ρ a w hR => by
 obtain ⟨h1, h2⟩ := hR.ev hx
 cases h2 with
 | c g =>
  cases g with
  | p row B o2 hS hcell hg =>
   refine ⟨?_, .q hS (fun i u hu => by rw [Nat.zero_mul, Nat.add_zero]; exact hcell i u hu) hg⟩
   have := run_fieldAt (P := P) (j := o2) (B := B) (w := w) ht
   simp [execOp, ho, h1, AV.den, CV.den, ptS, this]
theorem rd_bin {op : BinOp} {t yt : TypeId} {x y : Operand} {vx vy : AV} {dx dy r : Value} (ho : o.op = .binOp op t x y yt) (hx : ev F x = some vx) (hy : ev F y = some vy) (hdx : ∀ ρ H, vx.den ρ H = dx) (hdy : ∀ ρ H, vy.den ρ H = dy)
    (hop : ∀ w, (do eqGuard op t x y dx dy; binOp op t dx dy : Sem Value).run P w = .ok r w) : Rd P N E o F H (.c (.s r)) := fun S ρ a w hR => by
 have h1 := (hR.ev hx).1
 have h2 := (hR.ev hy).1
 rw [hdx] at h1
 rw [hdy] at h2
 refine ⟨?_, .c (.s _)⟩
 have := hop w
 simp only [execOp, ho, h1, h2]
 rw [Sem.run_bind, this]
 rfl
section
variable {t yt : TypeId} {x y : Operand} {m n : Int} {kd : IntKind}
theorem rd_int {op : BinOp} {r : Value} (ho : o.op = .binOp op t x y yt) (hx : ev F x = some (.c (.s (.int kd m)))) (hy : ev F y = some (.c (.s (.int kd n)))) (hne : op ≠ .shl ∧ op ≠ .shr) (h : ∀ w, (match op with
      | .add | .sub | .mul => Op.intArith op kd m n
      | .quo | .rem => Op.intDiv op kd m n
      | .and | .or | .xor | .andNot => Op.intBits op kd m n
      | _ => Op.intCmp op m n : Sem Value).run P w = .ok r w) : Rd P N E o F H (.c (.s r)) :=
 rd_bin ho hx hy (fun _ _ => rfl) (fun _ _ => rfl) fun w => by
  have := h w
  have hg : (eqGuard op t x y (.int kd m) (.int kd n)).run P w = .ok () w := by unfold eqGuard; split <;> rfl
  rw [Sem.run_bind, hg]
  simp only [CV.den, Result.andThen_ok]
  unfold binOp
  cases op <;> simp_all
theorem rd_add (ho : o.op = .binOp .add t x y yt) (hx : ev F x = some (.c (.s (.int .i64 m)))) (hy : ev F y = some (.c (.s (.int .i64 n)))) : Rd P N E o F H (.c (.s (.int .i64 (wrap64 (m + n))))) :=
 rd_int ho hx hy (by simp) fun w => by simp [Op.intArith, IntKind.wrap_i64, wrap64]
theorem rd_sub (ho : o.op = .binOp .sub t x y yt) (hx : ev F x = some (.c (.s (.int .i64 m)))) (hy : ev F y = some (.c (.s (.int .i64 n)))) : Rd P N E o F H (.c (.s (.int .i64 (wrap64 (m - n))))) :=
 rd_int ho hx hy (by simp) fun w => by simp [Op.intArith, IntKind.wrap_i64, wrap64]
theorem rd_mul (ho : o.op = .binOp .mul t x y yt) (hx : ev F x = some (.c (.s (.int .i64 m)))) (hy : ev F y = some (.c (.s (.int .i64 n)))) : Rd P N E o F H (.c (.s (.int .i64 (wrap64 (m * n))))) :=
 rd_int ho hx hy (by simp) fun w => by simp [Op.intArith, IntKind.wrap_i64, wrap64]
theorem rd_lss (ho : o.op = .binOp .lss t x y yt) (hx : ev F x = some (.c (.s (.int kd m)))) (hy : ev F y = some (.c (.s (.int kd n)))) : Rd P N E o F H (.c (.s (.bool (decide (m < n))))) :=
 rd_int ho hx hy (by simp) fun w => by simp [Op.intCmp]
theorem rd_leq (ho : o.op = .binOp .leq t x y yt) (hx : ev F x = some (.c (.s (.int kd m)))) (hy : ev F y = some (.c (.s (.int kd n)))) : Rd P N E o F H (.c (.s (.bool (decide (m ≤ n))))) :=
 rd_int ho hx hy (by simp) fun w => by simp [Op.intCmp]
theorem rd_gtr (ho : o.op = .binOp .gtr t x y yt) (hx : ev F x = some (.c (.s (.int kd m)))) (hy : ev F y = some (.c (.s (.int kd n)))) : Rd P N E o F H (.c (.s (.bool (decide (n < m))))) :=
 rd_int ho hx hy (by simp) fun w => by simp [Op.intCmp]
theorem rd_geq (ho : o.op = .binOp .geq t x y yt) (hx : ev F x = some (.c (.s (.int kd m)))) (hy : ev F y = some (.c (.s (.int kd n)))) : Rd P N E o F H (.c (.s (.bool (decide (n ≤ m))))) :=
 rd_int ho hx hy (by simp) fun w => by simp [Op.intCmp]
theorem rd_eql (ho : o.op = .binOp .eql t x y yt) (hx : ev F x = some (.c (.s (.int kd m)))) (hy : ev F y = some (.c (.s (.int kd n)))) : Rd P N E o F H (.c (.s (.bool (decide (m = n))))) :=
 rd_int ho hx hy (by simp) fun w => by simp [Op.intCmp]; rfl
theorem rd_neq (ho : o.op = .binOp .neq t x y yt) (hx : ev F x = some (.c (.s (.int kd m)))) (hy : ev F y = some (.c (.s (.int kd n)))) : Rd P N E o F H (.c (.s (.bool (decide (m ≠ n))))) :=
 rd_int ho hx hy (by simp) fun w => by simp [Op.intCmp]; rfl
theorem rd_quo (ho : o.op = .binOp .quo t x y yt) (hx : ev F x = some (.c (.s (.int .i64 m)))) (hy : ev F y = some (.c (.s (.int .i64 n)))) (h0 : n ≠ 0) : Rd P N E o F H (.c (.s (.int .i64 (wrap64 (m.tdiv n))))) :=
 rd_int ho hx hy (by simp) fun w => by simp [Op.intDiv, h0, IntKind.wrap_i64, wrap64]
theorem rd_rem (ho : o.op = .binOp .rem t x y yt) (hx : ev F x = some (.c (.s (.int .i64 m)))) (hy : ev F y = some (.c (.s (.int .i64 n)))) (h0 : n ≠ 0) : Rd P N E o F H (.c (.s (.int .i64 (m.tmod n)))) :=
 rd_int ho hx hy (by simp) fun w => by simp [Op.intDiv, h0]
theorem rd_not {b : Bool} {ut : TypeId} (ho : o.op = .unOp .not ut x) (hx : ev F x = some (.c (.s (.bool b)))) : Rd P N E o F H (.c (.s (.bool (!b)))) := fun S ρ a w hR => by
 have h1 := (hR.ev hx).1
 simp only [AV.den, CV.den] at h1
 exact ⟨by simp [execOp, ho, h1, Op.unary, AV.den, CV.den], .c (.s _)⟩
theorem rd_neg {ut : TypeId} (ho : o.op = .unOp .neg ut x) (hx : ev F x = some (.c (.s (.int .i64 m)))) : Rd P N E o F H (.c (.s (.int .i64 (wrap64 (-m))))) := fun S ρ a w hR => by
 have h1 := (hR.ev hx).1
 simp only [AV.den, CV.den] at h1
 exact ⟨by simp [execOp, ho, h1, Op.unary, Op.intArith, AV.den, CV.den, IntKind.wrap_i64, wrap64], .c (.s _)⟩
end
end
end Go.Proofs.YtcchlddiggmcaaaGreatDoor
