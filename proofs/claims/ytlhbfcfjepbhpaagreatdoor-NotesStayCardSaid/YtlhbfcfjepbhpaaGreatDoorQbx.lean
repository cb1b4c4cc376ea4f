/- The closed call of the package's own check of its parts: run by the executor. -/
import Derived.Test.YtlhbfcfjepbhpaaGreatDoorQbw
import Derived.Calls
import Derived.Test.YtlhbfcfjepbhpaaGreatDoorProg
import Derived.Shelf.SlIter.Sorted
import Derived.Shelf.SortM.Plain
import Derived.Shelf.SortM.SortNone
import Derived.Test.YtlhbfcfjepbhpaaGreatDoorQaq
import Derived.Test.YtlhbfcfjepbhpaaGreatDoorQbs
set_option linter.unusedSimpArgs false
set_option linter.unusedVariables false
namespace Go.Proofs.YtlhbfcfjepbhpaaGreatDoor
section
open Go Go.RowKit
theorem zp2 {α : Type} {P : Program} {s : Sem α} {w : World} {x : Result α} (h : s.run P w = x) : w.drawn ≤ (resW x).drawn := h ▸ ze2 s w
theorem die_drawn (p : Program) (fr : Frame) (d : Dying) (w : World) : w.drawn ≤ (gsW (die p fr d w)).drawn := by
 unfold die
 split
 ·exact writeOn_drawn _ _ _ _ _
 ·split
  ·exact gsIte (Nat.le_refl _) (endWith_drawn _ _ _ _)
  ·dsimp only
   split
   ·exact Nat.le_refl _
   ·split
    all_goals
     rename_i hx
     exact zp2 hx
   ·rename_i t recv name _
    have h := zz1 (P := p) (invoke (.fn (.method name) #[]) #[.iface t recv]) w #[]
    revert h
    generalize (invoke (.fn (.method name) #[]) #[.iface t recv]).runT p w #[] = x
    obtain ⟨r, es⟩ := x
    intro h
    simp only [zX1] at h ⊢
    repeat' split
    all_goals first
     | exact h
     | exact Nat.le_refl _
     | (rw [zB2]; exact h)
   ·exact Nat.le_refl _
theorem zL2 (p : Program) (li : Bool) (fr : Frame) (cs : List Frame) (d : Option Dying) (s : Sem Next) (w : World) : w.drawn ≤ (gsW (stepG.apply p li fr cs d s w)).drawn := by
 unfold stepG.apply
 have h : w.drawn ≤ (resW (if li then s.runT p w #[] else (s.run p w, #[])).1).drawn := by
  split
  ·exact zz1 s w #[]
  ·exact ze2 s w
 revert h
 generalize (if li then s.runT p w #[] else (s.run p w, #[])) = x
 obtain ⟨r, es⟩ := x
 intro h
 simp only [zX1] at h ⊢
 cases r with
 | ok n w2 =>
  cases n <;> (try simp only)
  all_goals first
   | exact h
   | (repeat' split
      all_goals exact h)
 | halt e w2 =>
  cases e <;> (try simp only)
  all_goals first
   | exact h
   | exact Nat.le_trans h (zp3 _ _ _ _ _ _)
   | (rename_i u; cases u <;> (try simp only)
      all_goals first
       | exact h
       | exact Nat.le_trans h (early_drawn _ _ _ _ _ _))
theorem oper_drawn (p : Program) (li : Bool) (fr : Frame) (cs : List Frame) (d : Option Dying) (w : World) : w.drawn ≤ (gsW (stepG.oper p li fr cs d w)).drawn := by
 unfold stepG.oper
 split
 ·exact Nat.le_refl _
 ·split
  all_goals exact zL2 _ _ _ _ _ _ _
theorem elimD {α : Type} {o : Option α} {a : GStep} {f : α → GStep} {n : Nat} (h1 : n ≤ (gsW a).drawn) (h2 : ∀ x, n ≤ (gsW (f x)).drawn) : n ≤ (gsW (o.elim a f)).drawn := by
 cases o
 ·exact h1
 ·exact h2 _
theorem exec_drawn (p : Program) (main li : Bool) (fr : Frame) (cs : List Frame) (d : Option Dying) (w : World) : w.drawn ≤ (gsW (stepG.exec p main li fr cs d w)).drawn := by
 unfold stepG.exec
 extract_lets go to lost leave
 have hl : ∀ j, w.drawn ≤ (gsW (leave j)).drawn := fun j => by
  show w.drawn ≤ (gsW (match fr.roundOf with
   | none => _
   | some l => _)).drawn
  split
  ·split
   all_goals exact Nat.le_refl _
  ·rename_i l _
   have h := zz1 (P := p) (Instr.endRound l j) w #[]
   revert h
   generalize (Instr.endRound l j).runT p w #[] = x
   obtain ⟨r, es⟩ := x
   intro h
   simp only [zX1] at h ⊢
   cases r with
   | ok a w2 => simp only; rw [zv2]; exact h
   | halt e w2 => exact h
 clear_value leave
 split
 any_goals exact hl _
 any_goals exact Nat.le_refl _
 any_goals exact zL2 _ _ _ _ _ _ _
 any_goals exact elimD (hl _) fun _ => Nat.le_refl _
 any_goals exact elimD (Nat.le_refl _) fun _ => zL2 _ _ _ _ _ _ _
 any_goals exact gsIte (oper_drawn _ _ _ _ _ _) (Nat.le_refl _)
 ·split
  all_goals exact Nat.le_refl _
 ·split
  rename_i r es hx
  have h := dr_of hx
  rw [zX1]
  cases r with
  | ok a w2 => exact Nat.le_trans h (zL2 _ _ _ _ _ _ _)
  | halt e w2 => exact h
 ·split
  rename_i r es hx
  have h := dr_of hx
  rw [zX1]
  cases r with
  | ok a w2 => exact h
  | halt e w2 => cases e <;> exact h
 ·refine gsIte (Nat.le_refl _) ?_
  split
  all_goals
   rename_i hx
   exact zp2 hx
theorem stepG_drawn (p : Program) (main : Bool) (g : Goroutine) (w : World) (li : Bool) : w.drawn ≤ (gsW (stepG p main g w li)).drawn := by
 unfold stepG
 split
 split
 ·exact die_drawn _ _ _ _
 ·exact exec_drawn _ _ _ _ _ _ _
 ·exact unwind_drawn zp3 _ _ _ _ _ _
end
section
open Go Go.RowKit
def sdOk (n : Nat) : Stepped → Prop
 | .next m => n ≤ m.world.drawn
 | .ended _ _ => True
theorem sdIte {c : Prop} [Decidable c] {a b : Stepped} {n : Nat} (h1 : sdOk n a) (h2 : sdOk n b) : sdOk n (if c then a else b) := by
 split
 ·exact h1
 ·exact h2
theorem zQ3 (p : Program) (gs : Array Goroutine) (rest : Rest) (w : World) : sdOk w.drawn (look p gs rest w) := by
 unfold look
 split
 ·dsimp only
  refine sdIte trivial ?_
  split
  ·trivial
  ·split
   ·rename_i hx
    exact zp2 hx
   ·trivial
   ·trivial
 ·trivial
theorem drain_drawn (w : World) (c : Nat) : (drain w c).2.drawn = w.drawn := by
 unfold drain
 split <;> rfl
theorem zg4 (m : Machine) (k : Nat) (t : Timer) (a b : Nat) : (retime m k t a b).2.world.drawn = m.world.drawn := by
 unfold retime
 cases t.chan with
 | none => rfl
 | some c =>
  have := drain_drawn m.world c
  dsimp only
  generalize drain m.world c = x at this ⊢
  obtain ⟨a1, a2⟩ := x
  exact this
theorem timerOp_drawn (m : Machine) (o : TimerOp) (v : Value) (m2 : Machine) (h : timerOp m o = .ok (v, m2)) : m.world.drawn = m2.world.drawn := by
 unfold timerOp at h
 split at h
 ·split at h
  ·cases h; rfl
  ·split at h
   ·split at h
    ·cases h
    ·cases h; rfl
   ·cases h
 ·unfold timerOp.named at h
  split at h
  ·injection h with h
   have := congrArg (fun q => q.2.world.drawn) h
   exact (zg4 _ _ _ _ _).symm.trans this
  ·cases h
 ·split at h
  ·rename_i m1 h1
   unfold timerOp.named at h
   have hm : m1.world.drawn = m.world.drawn := by
    unfold timerOp.opened at h1
    split at h1
    ·split at h1
     ·cases h1; rfl
     ·cases h1
    ·cases h1; rfl
   split at h
   ·injection h with h
    have := congrArg (fun q => q.2.world.drawn) h
    exact (hm.symm.trans (zg4 _ _ _ _ _).symm).trans this
   ·cases h
  ·cases h
 ·cases h; rfl
theorem serve_drawn (p : Program) (m : Machine) (k : Nat) : sdOk m.world.drawn (serve p m k) := by
 unfold serve
 split
 ·trivial
 ·exact Nat.le_refl _
 ·dsimp only
  split
  ·trivial
  ·exact Nat.le_refl _
end
section
open Go Go.RowKit
theorem sdIte2 {c : Prop} [Decidable c] {a b : Stepped × Array MemOp} {n : Nat} (h1 : sdOk n a.1) (h2 : sdOk n b.1) : sdOk n (if c then a else b).1 := by
 split
 ·exact h1
 ·exact h2
theorem waitingAt_drawn {rest : Rest} {cs : Array CommCase} {w w2 : World} (h : waitingAt rest cs w = some w2) : w2.drawn = w.drawn := by
 unfold waitingAt at h
 split at h
 ·split at h
  ·cases h; rfl
  ·cases h
 ·cases h; rfl
theorem zb4 (p : Program) (rest : Rest) (gs : Array Goroutine) (i : Nat) (g : Goroutine) (cs : Array CommCase) (b : Bool) (sh : CommShape) (w : World) : sdOk w.drawn (communicate p rest gs i g cs b sh w).1 := by
 unfold communicate
 extract_lets put illMade me other ready pick
 have hput : ∀ (g : Goroutine) (gs : Array Goroutine) (w2 : World) (ops : Array MemOp), (put g gs w2 ops).1 = .next { world := w2, gs := gs.setIfInBounds i g, rest } := fun _ _ _ _ => rfl
 refine sdIte2 trivial (sdIte2 (sdIte2 ?_ (Nat.le_refl _)) ?_)
 ·split
  ·rename_i hx
   exact Nat.le_of_eq (waitingAt_drawn hx).symm
  ·trivial
 ·split
  ·trivial
  ·rename_i hx
   have h := zp2 hx
   dsimp only
   split
   ·split
    ·rename_i hx2
     exact Nat.le_trans h (zp2 hx2)
    ·trivial
   ·exact h
   ·exact h
   ·split
    ·exact h
    ·split
     ·rename_i hx2
      exact Nat.le_trans h (zp2 hx2)
     ·trivial
   ·exact h
   ·exact h
   ·trivial
end
section
open Go Go.RowKit
theorem runT_drawn (p : Program) (m : Machine) (i : Nat) (li : Bool) : sdOk m.world.drawn (runT p m i li).1 := by
 unfold runT
 extract_lets rest world
 split
 rename_i g gs _
 extract_lets wake fn pos s ops done
 have h : m.world.drawn ≤ (gsW s).drawn := stepG_drawn p (i == 0) g m.world li
 clear_value s
 cases s with
 | ended o w es => trivial
 | comm g2 cases_ b sh w es =>
  have h2 := zb4 p rest gs i g2 cases_ b sh w
  dsimp only
  generalize communicate p rest gs i g2 cases_ b sh w = x at h2
  obtain ⟨r, more⟩ := x
  cases r with
  | next m2 => exact Nat.le_trans h h2
  | ended o w => trivial
 | go g2 w es => exact h
 | spawn g2 ch w es => exact h
 | count g2 w es =>
  dsimp only [done]
  refine sdIte trivial ?_
  exact h
 | alone g2 on w es => exact h
 | collect g2 w es =>
  have h2 := zQ3 p (gs.setIfInBounds i g2) rest w
  show sdOk _ (look p (gs.setIfInBounds i g2) rest w)
  generalize look p (gs.setIfInBounds i g2) rest w = x at h2
  cases x with
  | next m2 => exact Nat.le_trans h h2
  | ended o w => trivial
 | watch g2 w es => exact h
 | newcoro g2 c d w es => exact h
 | coroswitch g2 c ex w es =>
  dsimp only [done]
  split
  ·exact h
  ·split
   ·rename_i hx
    have h2 := congrArg (fun q => (gsW q).drawn) hx
    simp only [zo3] at h2
    exact Nat.le_trans h (Nat.le_of_eq h2)
   ·trivial
  ·trivial
 | timer g2 op w es =>
  dsimp only [done]
  split
  ·rename_i hx
   exact Nat.le_trans h (Nat.le_of_eq (timerOp_drawn _ _ _ _ hx))
  ·split
   ·rename_i hx
    have h2 := congrArg (fun q => (gsW q).drawn) hx
    simp only [zo3] at h2
    exact Nat.le_trans h (Nat.le_of_eq h2)
   ·trivial
  ·trivial
  ·trivial
end
section
open Go Go.RowKit
def mvOk (n : Nat) : Move → Prop
 | .goroutine m _ => n ≤ m.world.drawn
 | .machine s _ => sdOk n s
theorem mvIte {c : Prop} [Decidable c] {a b : Move} {n : Nat} (h1 : mvOk n a) (h2 : mvOk n b) : mvOk n (if c then a else b) := by
 split
 ·exact h1
 ·exact h2
theorem sdOk.le {n k : Nat} (h : n ≤ k) {s : Stepped} (hs : sdOk k s) : sdOk n s := by
 cases s with
 | next m => exact Nat.le_trans h hs
 | ended o w => trivial
theorem zv3 (p : Program) (m : Machine) : mvOk m.world.drawn (askOn p m) := by
 unfold askOn
 extract_lets mono rs ds pick
 have hp : ∀ m2 : Machine, m.world.drawn ≤ m2.world.drawn → mvOk m.world.drawn (pick m2) := fun m2 h2 => by
  show mvOk _ (match (choose (.sched rs.length)).run p m2.world with
   | .halt _ w => _
   | .ok k world => _)
  split
  ·trivial
  ·rename_i hx
   have h3 := Nat.le_trans h2 (zp2 hx)
   refine mvIte h3 ?_
   split
   ·trivial
   ·rename_i hx2
    exact Nat.le_trans h3 (zp2 hx2)
 clear_value pick
 clear_value rs ds
 split
 ·trivial
 ·rename_i hx
  have h := zp2 hx
  dsimp only
  refine mvIte (sdOk.le h (serve_drawn _ _ _)) ?_
  cases rs
  ·dsimp only
   split
   ·exact h
   ·refine mvIte h ?_
    split <;> trivial
  ·dsimp only
   split
   ·exact hp _ h
   ·split
    ·trivial
    ·rename_i hx2
     exact hp _ (Nat.le_trans h (zp2 hx2))
    ·rename_i hx2
     exact Nat.le_trans h (zp2 hx2)
    ·rename_i hx2
     exact hp _ (Nat.le_trans h (zp2 hx2))
theorem mvOk.le {n k : Nat} (h : n ≤ k) {s : Move} (hs : mvOk k s) : mvOk n s := by
 cases s with
 | goroutine m i => exact Nat.le_trans h hs
 | machine s o => exact sdOk.le h hs
theorem look_next {p : Program} {gs : Array Goroutine} {rest : Rest} {w : World} {m : Machine} (h : look p gs rest w = .next m) : w.drawn ≤ m.world.drawn := by
 have h2 := zQ3 p gs rest w
 rw [h] at h2
 exact h2
theorem ask_drawnM (p : Program) (m : Machine) : mvOk m.world.drawn (ask p m) := by
 unfold ask
 refine mvIte ?_ (zv3 p m)
 split
 ·trivial
 ·rename_i hx
  have h := zp2 hx
  split
  ·rename_i hx2
   exact mvOk.le (Nat.le_trans h (look_next hx2)) (zv3 p _)
  ·exact sdOk.le h (zQ3 _ _ _ _)
 ·rename_i hx
  exact mvOk.le (zp2 hx) (zv3 _ _)
theorem move_drawn (p : Program) (m : Machine) : mvOk m.world.drawn (move p m) := by
 unfold move
 split
 ·exact mvIte (Nat.le_refl _) trivial
 ·split
  ·exact mvIte (Nat.le_refl _) (ask_drawnM p _)
  ·exact ask_drawnM p m
theorem step_drawn {p : Program} {m m2 : Machine} (h : step p m = .next m2) : m.world.drawn ≤ m2.world.drawn := by
 unfold step stepT at h
 have hm := move_drawn p m
 generalize move p m = x at hm h
 cases x with
 | goroutine m3 i =>
  have h2 := runT_drawn p m3 i true
  dsimp only at h
  rw [h] at h2
  exact Nat.le_trans hm h2
 | machine s o =>
  dsimp only at h
  rw [h] at hm
  exact hm
theorem steps_drawn {P : Program} {m m2 : Machine} (h : Steps P m m2) : m.world.drawn ≤ m2.world.drawn := by
 obtain ⟨n, hn⟩ := h
 induction n generalizing m with
 | zero => simp [runN] at hn; rw [hn]; exact Nat.le_refl _
 | succ n ih =>
  simp only [runN] at hn
  cases hs : step P m with
  | next m' => rw [hs] at hn; exact Nat.le_trans (step_drawn hs) (ih hn)
  | ended o w => rw [hs] at hn; cases hn
theorem calls_drawn {P : Program} {f : FuncId} {args : Array Value} {w : World} {R : Ending → World → Prop} (hR : ∀ e w', R e w' → ∃ v, e = .returned v) (h : Calls P f args w R) : Calls P f args w fun e w' => R e w' ∧ w.drawn ≤ w'.drawn := fun cs => by
 obtain ⟨e, w', fr, h1, h2, h3⟩ := h cs
 obtain ⟨v, rfl⟩ := hR e w' h1
 exact ⟨_, w', fr, ⟨h1, steps_drawn h2⟩, h2, h3⟩
end
section
open Go Go.RowKit Go.Maps Go.Sort Go.Shelf
set_option maxRecDepth 100000
def keysSSL_ren : Go.Shelf.Ren := ⟨fun | 7 => 130 | 10 => 185 | n => n, fun | 23 => 116 | 26 => 9 | 3 => 9 | 28 => 204 | 0 => 0 | 27 => 203 | 33 => 107 | 4 => 4 | n => n, fun | n => n⟩
theorem keysSSL : Go.Proofs.SlLaysZ.n7 Tryz.prog keysSSL_ren := {
 mixed := by kernel_rfl
 f7 := ⟨Tryz.f130.name, by decide, Tryz.func130.trans (congrArg some (by kernel_rfl))⟩
 f10 := ⟨Tryz.f185.name, by decide, Tryz.func185.trans (congrArg some (by kernel_rfl))⟩
 t0 := Tryz.underlying0
 a0 := Tryz.isAgg0
 z0 := Tryz.sizeOf0
 v0 := Tryz.zeroValue0
 t4 := Tryz.underlying4
 a4 := Tryz.isAgg4
 z4 := Tryz.sizeOf4
 v4 := Tryz.zeroValue4
 t23 := Tryz.underlying116
 a23 := Tryz.isAgg116
 z23 := Tryz.sizeOf116
 v23 := Tryz.zeroValue116
 t26 := Tryz.underlying9
 a26 := Tryz.isAgg9
 z26 := Tryz.sizeOf9
 v26 := Tryz.zeroValue9
 t27 := Tryz.underlying203
 a27 := Tryz.isAgg203
 z27 := Tryz.sizeOf203
 v27 := Tryz.zeroValue203
 t28 := Tryz.underlying204
 a28 := Tryz.isAgg204
 z28 := Tryz.sizeOf204
 v28 := Tryz.zeroValue204
 t33 := Tryz.underlying107
 a33 := Tryz.isAgg107
 z33 := Tryz.sizeOf107
 v33 := Tryz.zeroValue107 }
def ze4 : Go.Shelf.Ren := ⟨fun | 6 => 129 | 8 => 183 | 9 => 184 | 11 => 254 | 13 => 124 | 12 => 255 | 23 => 180 | 24 => 181 | 14 => 304 | 15 => 305 | 16 => 306 | 17 => 307 | 18 => 308 | 19 => 309 | 20 => 310 | 21 => 311 | 22 => 312 | 25 => 345 | 26 => 249 | 27 => 250 | 28 => 346 | 29 => 347 | 30 => 348 | 31 => 378 | n => n, fun | 26 => 9 | 28 => 204 | 24 => 61 | 0 => 0 | 3 => 3 | 37 => 200 | 48 => 251 | 50 => 253 | 4 => 4 | 40 => 245 | 39 => 244 | 45 => 105 | 5 => 5 | 9 => 9 | 51 => 310 | 55 => 314 | 57 => 370 | 58 => 371 | 33 => 107 | n => n, fun | n => n⟩
theorem sortedSL : Go.Proofs.SlLaysZ.n6 Tryz.prog ze4 := {
 mixed := by kernel_rfl
 f6 := ⟨Tryz.f129.name, by decide, Tryz.func129.trans (congrArg some (by kernel_rfl))⟩
 f8 := ⟨Tryz.f183.name, by decide, Tryz.func183.trans (congrArg some (by kernel_rfl))⟩
 f11 := ⟨Tryz.f254.name, by decide, Tryz.func254.trans (congrArg some (by kernel_rfl))⟩
 t0 := Tryz.underlying0
 a0 := Tryz.isAgg0
 z0 := Tryz.sizeOf0
 v0 := Tryz.zeroValue0
 t24 := Tryz.underlying61
 a24 := Tryz.isAgg61
 z24 := Tryz.sizeOf61
 v24 := Tryz.zeroValue61
 t26 := Tryz.underlying9
 a26 := Tryz.isAgg9
 z26 := Tryz.sizeOf9
 v26 := Tryz.zeroValue9
 t28 := Tryz.underlying204
 a28 := Tryz.isAgg204
 z28 := Tryz.sizeOf204
 v28 := Tryz.zeroValue204
 i26 := by kernel_rfl }
def sortSL_ren : Go.Shelf.Ren := ⟨fun | 6 => 184 | 8 => 124 | 9 => 255 | 19 => 180 | 20 => 181 | 21 => 304 | 22 => 305 | 23 => 306 | 24 => 307 | 25 => 308 | 26 => 309 | 27 => 310 | 28 => 311 | 29 => 312 | 36 => 345 | 31 => 249 | 32 => 250 | 37 => 346 | 38 => 347 | 39 => 348 | 41 => 378 | n => n, fun | 27 => 61 | 29 => 9 | 3 => 3 | 32 => 200 | 26 => 61 | 0 => 0 | 44 => 251 | 46 => 253 | 4 => 4 | 36 => 245 | 35 => 244 | 41 => 105 | 5 => 5 | 9 => 9 | 53 => 310 | 57 => 314 | 63 => 370 | 64 => 371 | n => n, fun | n => n⟩
theorem sortSL : Go.Proofs.SlLaysM.n6 Tryz.prog sortSL_ren := {
 mixed := by kernel_rfl
 f6 := ⟨Tryz.f184.name, by decide, Tryz.func184.trans (congrArg some (by kernel_rfl))⟩
 f8 := Tryz.func124.trans (congrArg some (by kernel_rfl))
 f9 := ⟨Tryz.f255.name, by decide, Tryz.func255.trans (congrArg some (by kernel_rfl))⟩
 f19 := Tryz.func180.trans (congrArg some (by kernel_rfl))
 f20 := Tryz.func181.trans (congrArg some (by kernel_rfl))
 f21 := ⟨Tryz.f304.name, by decide, Tryz.func304.trans (congrArg some (by kernel_rfl))⟩
 f22 := ⟨Tryz.f305.name, by decide, Tryz.func305.trans (congrArg some (by kernel_rfl))⟩
 f23 := ⟨Tryz.f306.name, by decide, Tryz.func306.trans (congrArg some (by kernel_rfl))⟩
 f24 := ⟨Tryz.f307.name, by decide, Tryz.func307.trans (congrArg some (by kernel_rfl))⟩
 f25 := ⟨Tryz.f308.name, by decide, Tryz.func308.trans (congrArg some (by kernel_rfl))⟩
 f26 := ⟨Tryz.f309.name, by decide, Tryz.func309.trans (congrArg some (by kernel_rfl))⟩
 f27 := ⟨Tryz.f310.name, by decide, Tryz.func310.trans (congrArg some (by kernel_rfl))⟩
 f28 := ⟨Tryz.f311.name, by decide, Tryz.func311.trans (congrArg some (by kernel_rfl))⟩
 f29 := ⟨Tryz.f312.name, by decide, Tryz.func312.trans (congrArg some (by kernel_rfl))⟩
 f31 := Tryz.func249.trans (congrArg some (by kernel_rfl))
 f32 := Tryz.func250.trans (congrArg some (by kernel_rfl))
 f36 := ⟨Tryz.f345.name, by decide, Tryz.func345.trans (congrArg some (by kernel_rfl))⟩
 f37 := ⟨Tryz.f346.name, by decide, Tryz.func346.trans (congrArg some (by kernel_rfl))⟩
 f38 := ⟨Tryz.f347.name, by decide, Tryz.func347.trans (congrArg some (by kernel_rfl))⟩
 f39 := ⟨Tryz.f348.name, by decide, Tryz.func348.trans (congrArg some (by kernel_rfl))⟩
 f41 := ⟨Tryz.f378.name, by decide, Tryz.func378.trans (congrArg some (by kernel_rfl))⟩
 t0 := Tryz.underlying0
 a0 := Tryz.isAgg0
 z0 := Tryz.sizeOf0
 v0 := Tryz.zeroValue0
 t3 := Tryz.underlying3
 a3 := Tryz.isAgg3
 z3 := Tryz.sizeOf3
 v3 := Tryz.zeroValue3
 t4 := Tryz.underlying4
 a4 := Tryz.isAgg4
 z4 := Tryz.sizeOf4
 v4 := Tryz.zeroValue4
 t5 := Tryz.underlying5
 a5 := Tryz.isAgg5
 z5 := Tryz.sizeOf5
 v5 := Tryz.zeroValue5
 t9 := Tryz.underlying9
 a9 := Tryz.isAgg9
 z9 := Tryz.sizeOf9
 v9 := Tryz.zeroValue9
 t26 := Tryz.underlying61
 a26 := Tryz.isAgg61
 z26 := Tryz.sizeOf61
 v26 := Tryz.zeroValue61
 t27 := Tryz.underlying61
 a27 := Tryz.isAgg61
 z27 := Tryz.sizeOf61
 v27 := Tryz.zeroValue61
 t29 := Tryz.underlying9
 a29 := Tryz.isAgg9
 z29 := Tryz.sizeOf9
 v29 := Tryz.zeroValue9
 t32 := Tryz.underlying200
 a32 := Tryz.isAgg200
 z32 := Tryz.sizeOf200
 v32 := Tryz.zeroValue200
 t35 := Tryz.underlying244
 a35 := Tryz.isAgg244
 z35 := Tryz.sizeOf244
 v35 := Tryz.zeroValue244
 t36 := Tryz.underlying245
 a36 := Tryz.isAgg245
 z36 := Tryz.sizeOf245
 v36 := Tryz.zeroValue245
 t41 := Tryz.underlying105
 a41 := Tryz.isAgg105
 z41 := Tryz.sizeOf105
 v41 := Tryz.zeroValue105
 t44 := Tryz.underlying251
 a44 := Tryz.isAgg251
 z44 := Tryz.sizeOf251
 v44 := Tryz.zeroValue251
 t46 := Tryz.underlying253
 a46 := Tryz.isAgg253
 z46 := Tryz.sizeOf253
 v46 := Tryz.zeroValue253
 t53 := Tryz.underlying310
 a53 := Tryz.isAgg310
 z53 := Tryz.sizeOf310
 v53 := Tryz.zeroValue310
 t57 := Tryz.underlying314
 a57 := Tryz.isAgg314
 z57 := Tryz.sizeOf314
 v57 := Tryz.zeroValue314
 t63 := Tryz.underlying370
 a63 := Tryz.isAgg370
 z63 := Tryz.sizeOf370
 v63 := Tryz.zeroValue370
 t64 := Tryz.underlying371
 a64 := Tryz.isAgg371
 z64 := Tryz.sizeOf371
 v64 := Tryz.zeroValue371 }
theorem sortsS (m : Nat) : AnyZ.SortsIn Tryz.prog ze4 Fence.wide m :=
 ⟨fun blk off cap ss W hH hblk hsz => callsIn_wide.2 (AnyM.slices_Sort_string sortSL blk off cap ss W hH hblk hsz),
  fun p cap W => callsIn_wide.2 (AnyM.slices_Sort_string_none sortSL p cap W)⟩
end
section
open Go Go.RowKit Go.Maps Go.Sort Go.Shelf
set_option maxRecDepth 100000
theorem sorted_raw {R : Value → Option (DataW Unit × List MemPlace)} (B b nn : Nat) (D0 : DataW Unit) (w : World) (hB : B < w.heap.size) (hm : w.cell? ⟨B, 0, none⟩ = some (.map (some b))) (hown : w.ownsMap Tryz.prog 9 R b nn D0) (hmax : Maps.size D0 ≤ maxLen) (hbytes : Maps.size D0 * 16 ≤ 140737488355328) :
    Calls Tryz.prog 129 #[.func (.func 185) #[] #[.pointer (some ⟨B, 0, none⟩)]] w fun e w' => (∃ (v : Value) (ss : List (List UInt8)), e = .returned v ∧ ss.Perm (strKeys D0) ∧
     w'.ownsRow w.heap.size 9 1 v ss.length ((ss.mergeSort (fun x y => decide (x ≤ y))).map encStr) ∧ Below w.heap.size w w') ∧ w.drawn ≤ w'.drawn := by
 have hseq : SeqGives Fence.wide 2 Tryz.prog 185 #[.pointer (some ⟨B, 0, none⟩)] encStr (fun ss => ss.Perm (strKeys D0)) (Maps.size D0) w :=
  AnyZ.keys_gives (ρ := keysSSL_ren) { keysSSL with } Fence.wide _ trivial rfl (by omega) B b nn D0 _ hB hm hown
 have cS := AnyZ.sorted_in sortedSL Fence.wide 5 trivial trivial trivial trivial rfl (by omega) (sortsS _) (enters_of Tryz.func184 (by kernel_rfl) rfl) 185 #[.pointer (some ⟨B, 0, none⟩)] trivial (enters_of Tryz.func185 (by kernel_rfl) rfl) _ _ hmax hbytes _ hseq
 refine calls_drawn (fun e w' ⟨v, ss, h, _⟩ => ⟨v, h⟩) ?_
 refine (callsIn_wide.1 cS).mono ?_
 rintro e w' ⟨v, ss, rfl, h1, h2, _, h4⟩
 exact ⟨v, ss, rfl, h1, h2, h4⟩
end
section
open Go Go.RowKit Go.Maps Go.Sort Go.Shelf Go.WideElems Go.WideMaps
set_option maxRecDepth 100000
theorem insert_perm {H : Type} (x : Lit × DataW H) : ∀ (l : List (Lit × DataW H)), (DataW.insert x l).Perm (x :: l)
 | [] => List.Perm.refl _
 | y :: r => by
  unfold DataW.insert
  split
  ·exact List.Perm.refl _
  ·exact ((insert_perm x r).cons y).trans (List.Perm.swap x y r)
theorem zK1 {H : Type} : ∀ (l : List (Lit × DataW H)), (l.foldr DataW.insert []).Perm l
 | [] => List.Perm.refl _
 | x :: l => (insert_perm x _).trans ((zK1 l).cons x)
def rdN : Value → Option (DataW Unit × List MemPlace) := fun _ => some (.nil, [])
theorem map_own {w : World} {b ck : Nat} {ms : Array MapEntry} {l : List (Nat × List UInt8 × List UInt8)} (hb : w.heap[b]? = some (.map ms ck)) (hms : ms.toList = l.map fun e => (⟨.string (bst e.2.1), .string (bst e.2.2), e.1⟩ : MapEntry)) (hok : MapOk l ck) (hl : l.length ≤ 1000000) (hk : ∀ e ∈ l, e.2.1.length ≤ 1000000) :
    ∃ D0 : DataW Unit, w.ownsMap Tryz.prog 9 rdN b ms.size D0 ∧ Maps.size D0 = l.length ∧ (strKeys D0).Perm (l.map (·.2.1)) := by
 have hrd : ∀ e ∈ l, Go.WideElems.rd Tryz.prog 9 rdN ⟨.string (bst e.2.1), .string (bst e.2.2), e.1⟩ = some (.string e.2.1, .nil) := fun e he => by
  have h1 : keyOf Tryz.prog 9 (.string (bst e.2.1)) = some (.string (bst e.2.1).data.toList) := keyOf_string_mk Tryz.underlying9 (by have := hk e he; rw [zy1]; exact Nat.le_trans this (by decide))
  have h2 := rd_mk (born := e.1) h1 (show rdN (.string (bst e.2.2)) = some (.nil, []) from rfl)
  rw [h2]
 have hF : Fit Tryz.prog 9 rdN ms ck := by
  refine ⟨?_, ⟨fun x hx => ?_, ?_, ?_⟩, fun x hx => ?_⟩
  ·have := congrArg List.length hms
   rw [List.length_map, Array.length_toList] at this
   rw [this]
   exact Nat.le_trans hl (by decide)
  ·rw [hms] at hx
   obtain ⟨e, he, rfl⟩ := List.mem_map.1 hx
   exact hok.hb e he
  ·rw [hms, List.map_map]
   exact hok.nb
  ·rw [hms, List.map_map]
   have h1 : l.Pairwise fun a b => a.2.1 ≠ b.2.1 := List.pairwise_map.1 hok.nk
   refine List.pairwise_map.2 (h1.imp fun {a b} hne e => hne ?_)
   have e2 : Value.string (bst a.2.1) = Value.string (bst b.2.1) := e
   injection e2 with e2
   have := congrArg (fun q : ByteArray => q.data.toList) e2
   simpa using this
  ·rw [hms] at hx
   obtain ⟨e, he, rfl⟩ := List.mem_map.1 hx
   exact ⟨_, hrd e he⟩
 refine ⟨_, ⟨ms, ck, hb, hF, Nat.le_refl _, rfl⟩, ?_, ?_⟩
 ·rw [Maps.size_eq, (zK1 _).length_eq, List.length_map, hms, List.length_map]
 ·show (((ms.toList.map (Go.WideElems.rg Tryz.prog 9 rdN)).foldr DataW.insert []).map fun p => strOf p.1).Perm _
  refine ((zK1 _).map _).trans ?_
  rw [hms, List.map_map, List.map_map]
  refine List.Perm.of_eq (List.map_congr_left fun e he => ?_)
  show strOf (Go.WideElems.rg Tryz.prog 9 rdN ⟨.string (bst e.2.1), .string (bst e.2.2), e.1⟩).1 = e.2.1
  rw [rg_of (hrd e he)]
  rfl
end
section
open Go Go.RowKit Go.Maps Go.Sort Go.Shelf
set_option maxRecDepth 100000
theorem sortedKeys_ok : SortedKeysOk := fun l ck hok hl hk S ρ w hR hW => by
 obtain ⟨B, ms, hB, hh, hms⟩ := zi4 (b := 0) hR rfl
 obtain ⟨B1, t, hB1, hh1, _⟩ := hR.blk 1 _ rfl
 have hbox : w.heap[B1]? = some (.cells #[.map (some B)] t (0, 0)) := by
  rw [hh1]
  simp [AV.den, hB]
 have hargs : ([AV.f (.func 185) [.p 1 0 0]].map (AV.den ρ [mSS l ck, .box [.mp 0]])).toArray = #[.func (.func 185) #[] #[.pointer (some ⟨B1, 0, none⟩)]] := by
  simp [AV.den, AV.denL, hB1]
  rfl
 obtain ⟨D0, hown, hsz, hkp⟩ := map_own hh hms hok hl hk
 rw [hargs]
 refine (sorted_raw B1 B ms.size D0 w (hR.lt 1 B1 hB1) (by simp [World.cell?, hbox]) hown (by rw [hsz]; exact Nat.le_trans hl (by decide)) (by rw [hsz]; omega)).mono ?_
 rintro e w' ⟨⟨v, ss, rfl, hp, hrow, hbl⟩, hd⟩
 have hss : (ss.mergeSort fun x y => decide (x ≤ y)) = srtK l := mergeSort_of_perm (hp.trans hkp)
 have hlen : ss.length = l.length := by rw [hp.length_eq, hkp.length_eq, List.length_map]
 rw [hss, hlen] at hrow
 have hkey : ∀ (m : Option Nat) (c : Nat), (∀ g, m = some g → w.heap.size ≤ g ∧ g < w'.heap.size) → (∀ ρ2 H2, OwnB w' S ρ2 H2 (.arr 9 1 c (kR (srtK l))) m) →
     RH w' S (ρ ++ [m]) [mSS l ck, .box [.mp 0], .arr 9 1 c (kR (srtK l))] := fun m c hm ho => by
  have hl2 : ρ.length = 2 := hR.len
  have a0 : atB (ρ ++ [m]) 0 = some B := by rw [zB, if_neg (by omega)]; exact hB
  have a1 : atB (ρ ++ [m]) 1 = some B1 := by rw [zB, if_neg (by omega)]; exact hB1
  have a2 : atB (ρ ++ [m]) 2 = m := by rw [zB, if_pos hl2.symm]
  have hold : ∀ i b, atB (ρ ++ [m]) i = some b → (m = some b ∧ i = 2) ∨ (atB ρ i = some b ∧ b < w.heap.size) := fun i b hi => by
   rw [zB] at hi
   split at hi
   ·rename_i h; exact .inl ⟨hi, h.trans hl2⟩
   ·exact .inr ⟨hi, hR.lt i b hi⟩
  refine ⟨by simp [hl2], fun i i' b h1 h2 => ?_, fun i b h1 hS => ?_, fun i b h1 => ?_, fun b hb => Nat.lt_of_lt_of_le (hR.sS b hb) hbl.size, fun i o hi => ?_, PL.none fun i k b ⟨o, h1, h2⟩ => ?_⟩
  ·rcases hold i b h1 with ⟨g1, g2⟩ | ⟨g1, g2⟩ <;> rcases hold i' b h2 with ⟨q1, q2⟩ | ⟨q1, q2⟩
   ·omega
   ·have := (hm b g1).1; omega
   ·have := (hm b q1).1; omega
   ·exact hR.nd i i' b g1 q1
  ·rcases hold i b h1 with ⟨g1, g2⟩ | ⟨g1, g2⟩
   ·have := (hm b g1).1; have := hR.sS b hS; omega
   ·exact hR.ap i b g1 hS
  ·rcases hold i b h1 with ⟨g1, g2⟩ | ⟨g1, g2⟩
   ·exact (hm b g1).2
   ·exact Nat.lt_of_lt_of_le g2 hbl.size
  ·match i, hi with
   | 0, hi =>
    simp only [List.getElem?_cons_zero, Option.some.injEq] at hi
    subst hi
    rw [a0]
    refine ⟨B, ms, rfl, by rw [hbl.block B (hR.lt 0 B hB)]; exact hh, by rw [hms, List.map_map]; rfl, fun e he => ?_⟩
    obtain ⟨x, _, rfl⟩ := List.mem_map.1 he
    exact .s _
   | 1, hi =>
    simp only [List.getElem?_cons_succ, List.getElem?_cons_zero, Option.some.injEq] at hi
    subst hi
    rw [a1]
    refine ⟨B1, t, rfl, by rw [hbl.block B1 (hR.lt 1 B1 hB1), hbox]; simp [AV.den, a0], fun x hx => ?_⟩
    rw [List.mem_singleton] at hx
    subst hx
    exact ⟨.mp (by simp) (by rw [a0]; rfl), rfl⟩
   | 2, hi =>
    simp only [List.getElem?_cons_succ, List.getElem?_cons_zero, Option.some.injEq] at hi
    subst hi
    rw [a2]
    exact ho _ _
   | i + 3, hi => simp at hi
  ·obtain ⟨l2, rfl⟩ := zB1 h2
   match i, h1 with
   | 0, h1 => simp at h1
   | 1, h1 => simp at h1
   | 2, h1 => simp at h1
   | i + 3, h1 => simp at h1
 have hl2 : ρ.length = 2 := hR.len
 have hfin : ∀ (m : Option Nat) (c : Nat), (∀ g, m = some g → w.heap.size ≤ g ∧ g < w'.heap.size) → (∀ ρ2 H2, OwnB w' S ρ2 H2 (.arr 9 1 c (kR (srtK l))) m) → v = .slice (m.map fun B => ⟨B, 0, none⟩) l.length c → l.length ≤ c → (m = none → l.length = 0 ∧ c = 0) →
     ∃ u H' ρ' S', Ending.returned v = .returned (AV.den ρ' H' u) ∧ (∃ c, l.length ≤ c ∧ u = .o 2 0 l.length c ∧ H' = [mSS l ck, .box [.mp 0], .arr 9 1 c (kR (srtK l))]) ∧ WF w' S' ρ' H' u ∧ RH w' S' ρ' H' ∧
      Stp w w' (fun B => (∃ i, atB ρ i = some B) ∨ ∃ i k, inP [mSS l ck, .box [.mp 0]] i k B) ∧ (∀ b, S' b → S b ∨ (w.heap.size ≤ b ∨ ∃ i k, inP [mSS l ck, .box [.mp 0]] i k b)) ∧ (∀ i B, atB ρ' i = some B → (w.heap.size ≤ B ∨ ∃ i k, inP [mSS l ck, .box [.mp 0]] i k B) ∨ (i < [mSS l ck, .box [.mp 0]].length ∧ atB ρ i = some B)) ∧
      (∀ i k B, inP H' i k B → w.heap.size ≤ B ∨ ∃ i k, inP [mSS l ck, .box [.mp 0]] i k B) ∧
      (∀ i, i < [mSS l ck, OB.box [.mp 0]].length → i < H'.length ∧ ∀ o, [mSS l ck, OB.box [.mp 0]][i]? = some o → o.shp ≠ 0 → atB ρ' i = atB ρ i ∧ ∃ o', H'[i]? = some o' ∧ o'.shp = o.shp) ∧
      (true = true → ∀ i, i < [mSS l ck, OB.box [.mp 0]].length → atB ρ' i = atB ρ i ∧ szAt H' i = szAt [mSS l ck, .box [.mp 0]] i ∧ capAt H' i = capAt [mSS l ck, .box [.mp 0]] i) := fun m c hm ho hv hc h3 => by
  have a2 : atB (ρ ++ [m]) 2 = m := by rw [zB, if_pos hl2.symm]
  have hat : ∀ i, i < 2 → atB (ρ ++ [m]) i = atB ρ i := fun i hi => by rw [zB, if_neg (by omega)]
  refine ⟨.o 2 0 l.length c, _, ρ ++ [m], S, ?_, ⟨c, hc, rfl, rfl⟩, .o (by simp) hc (by simp [capAt, OB.cap]) (fun h => h3 (by rw [← a2]; exact h)), hkey m c hm ho, ⟨hbl.os, hbl.tape, hbl.output, hbl.size, fun b h _ => hbl.block b h, hd⟩, fun b hb => .inl hb, fun i b hi => ?_, fun i k b hi => ?_, fun i hi => ?_, fun _ i hi => ?_⟩
  ·rw [hv]
   simp [AV.den, a2]
  ·rw [zB] at hi
   split at hi
   ·exact .inl (.inl (hm b hi).1)
   ·exact .inr ⟨by have := zl4 hi; rw [hl2] at this; exact this, hi⟩
  ·obtain ⟨o, h1, h2⟩ := hi
   obtain ⟨l2, rfl⟩ := zB1 h2
   match i, h1 with
   | 0, h1 => simp at h1
   | 1, h1 => simp at h1
   | 2, h1 => simp at h1
   | i + 3, h1 => simp at h1
  ·have hi2 : i < 2 := hi
   refine ⟨by simp; omega, fun o ho2 _ => ⟨hat i hi2, ?_⟩⟩
   match i, ho2, hi2 with
   | 0, ho2, _ => exact ⟨o, ho2, rfl⟩
   | 1, ho2, _ => exact ⟨o, ho2, rfl⟩
  ·have hi2 : i < 2 := hi
   match i, hi2 with
   | 0, _ => exact ⟨hat 0 (by omega), rfl, rfl⟩
   | 1, _ => exact ⟨hat 1 (by omega), rfl, rfl⟩
 rcases hrow.2 with ⟨hv, h0⟩ | ⟨g, cap, cur, hv, hg, hgb, hn, hcap, hcur, htk⟩
 ·have hk0 : kR (srtK l) = [] := List.eq_nil_of_length_eq_zero (by rw [List.length_map, srtK_len]; exact h0)
  exact hfin none 0 (fun g h => by cases h) (fun ρ2 H2 => .inl ⟨rfl, rfl, hk0⟩) (by rw [hv, h0]; rfl) (by omega) fun _ => ⟨h0, rfl⟩
 ·refine hfin (some g) cap (fun q hq => ?_) (fun ρ2 H2 => .inr ⟨g, cur, rfl, hgb, hcur, hcap, by rw [List.length_map, srtK_len]; exact hn, fun row hr => ?_, fun k j row u hk2 hj => ?_⟩) hv hn (fun h => by cases h)
  ·cases hq
   exact ⟨hg, (Array.getElem?_eq_some_iff.1 hgb).1⟩
  ·obtain ⟨s2, _, rfl⟩ := List.mem_map.1 hr
   refine ⟨rfl, fun u hu => ?_⟩
   rw [List.mem_singleton] at hu
   subst hu
   exact ⟨.s _, rfl⟩
  ·rw [List.getElem?_map] at hk2
   cases hs2 : (srtK l)[k]? with
   | none => rw [hs2] at hk2; cases hk2
   | some s2 =>
    rw [hs2] at hk2
    simp only [Option.map_some, Option.some.injEq] at hk2
    subst hk2
    match j, hj with
    | 0, hj =>
     simp only [List.getElem?_cons_zero, Option.some.injEq] at hj
     subst hj
     have h1 : (cur.toList.take (l.length * 1))[k]? = some (encStr s2) := by rw [htk, List.getElem?_map, hs2]; rfl
     rw [List.getElem?_take] at h1
     split at h1
     ·rw [Nat.mul_one, Nat.add_zero, ← Array.getElem?_toList]; exact h1
     ·cases h1
    | j + 1, hj => simp at hj
end
section
open Go
set_option maxRecDepth 1000000
theorem ready_run : xrun Tryz.prog xnone 23 = some (.bool true) := by kernel_rfl
theorem ready_a : ACalls Tryz.prog 23 [] [] fun u H => u = .c (B true) ∧ H = [] := acalls_of_xrun (by kernel_rfl) (xnone_ok _) (u := .bool true) ready_run
end
end Go.Proofs.YtlhbfcfjepbhpaaGreatDoor
