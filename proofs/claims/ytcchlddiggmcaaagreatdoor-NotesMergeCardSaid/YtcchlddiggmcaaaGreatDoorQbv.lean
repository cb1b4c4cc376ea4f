/- Closed calls: calls as a function; a closed call's answer. Conditions: none. -/
import Derived.Test.YtcchlddiggmcaaaGreatDoorQbu
set_option linter.unusedSimpArgs false
set_option linter.unusedVariables false
namespace Go.Proofs.YtcchlddiggmcaaaGreatDoor
section
open Go Go.RowKit
set_option maxRecDepth 100000
section
variable {P : Program} {w0 : XEnv} {ρ γ : Nat → Nat} {F F' : XFr} {H H' : XHp} {a : Act} {w : World} {o : Oper} {call : XCf}
theorem XPostE.of {rd : Bool} {N : Nat} (h : XPost N w0 ρ γ H F' H' a w) : XPostE rd N w0 ρ γ H F' H' a w := by
 obtain ⟨ρ', γ', h1, h2⟩ := h
 exact ⟨w0, ρ', γ', ⟨Ext.refl _, fun _ => rfl⟩, h1, h2⟩
theorem xround_ok {N : Nat} {m : Nat} {fn : FuncId} {ps : Array Nat} {assign body : Code} {l : Nat} {D : Nat} {Fl : XFr} {Hl : XHp} {al : Act} {xa xb : XFr → XHp → Nat → Option (Exit × XSt)}
    (hxa : ∀ {E : XEnv} {ρ γ : Nat → Nat} {F : XFr} {H : XHp} {k k' : Nat} {F' : XFr} {H' : XHp} {e : Exit} {a : Act} {w : World} {Q : Exit → Act → World → Prop}, xa F H k = some (e, F', H', k') → XR N E ρ γ F H a w → (∀ a' w', XPostE true N E ρ γ H F' H' a' w' → Q e a' w') → assign.wpIn (Fence.wide.inRound l) m P Q a w)
    (hxb : ∀ {E : XEnv} {ρ γ : Nat → Nat} {F : XFr} {H : XHp} {k k' : Nat} {F' : XFr} {H' : XHp} {e : Exit} {a : Act} {w : World} {Q : Exit → Act → World → Prop}, xb F H k = some (e, F', H', k') → XR N E ρ γ F H a w → (∀ a' w', XPostE true N E ρ γ H F' H' a' w' → Q e a' w') → body.wpIn (Fence.wide.inRound l) m P Q a w)
    {rec : Loop} (hrec : rec = { state := .ready, pending := none, fn := fn, tmps := al.tmps, params := ps, assign := assign, body := body, defers := D }) {E' : XEnv} (hX : E'.X l = some (.loop rec)) (hlb : E'.w.heap.size ≤ l) (hRl : N ≤ al.tmps.size ∧ ∀ i x, Fl.get i = some x → al.tmps[i]? = some (x.den ρ γ) ∧ x.ok (Hl.has γ))
    {args : List XV} {k k' : Nat} {H' : XHp} (h : xround N ps.toList xa xb Fl args H k = some (H', k')) {ρ1 γ1 : Nat → Nat} (hH : XH E' ρ1 γ1 H w) (hok : XV.okL (H.has γ1) args) (hA : Agr Hl ρ γ H ρ1 γ1) :
    ∃ fn tmps assign body, (Instr.yield l (XV.denL ρ1 γ1 args).toArray).run P w = .ok (.round l fn tmps assign body) w ∧ RoundIn Fence.wide m P l fn tmps assign body w (fun e w' => e = .returned (.bool true) ∧ ∃ ρ' γ', XH E' ρ' γ' H' w' ∧ Agr H ρ1 γ1 H' ρ' γ') := by
 unfold xround at h
 split at h
 ·rename_i F1 hps
  split at h
  ·rename_i F2 H2 k2 hxa'
   split at h
   ·rename_i F3 H3 k3 hxb'
    simp only [Option.some.injEq, Prod.mk.injEq] at h
    obtain ⟨rfl, rfl⟩ := h
    have hFr : ∀ i x, Fl.get i = some x → al.tmps[i]? = some (x.den ρ1 γ1) ∧ x.ok (H.has γ1) := fun i x hi => by
     obtain ⟨h1, h2⟩ := hRl.2 i x hi
     exact ⟨by rw [hA.den h2]; exact h1, hA.ok h2⟩
    obtain ⟨p1, p2, p3⟩ := xputs_ok (tm := al.tmps) hps hFr hok hRl.1
    have hl := hH.st.fx l _ hX
    refine ⟨fn, (ps.zip (XV.denL ρ1 γ1 args).toArray).foldl (fun tmps (t, a) => tmps.setIfInBounds t a) al.tmps, assign, body, ?_, ?_⟩
    ·have := run_yield (P := P) (args := (XV.denL ρ1 γ1 args).toArray) hl (by rw [hrec]; simp [XV.denL_eq]; rw [← p1]; simp)
     rw [hrec] at this
     exact this
    ·have htm : (ps.zip (XV.denL ρ1 γ1 args).toArray).foldl (fun tmps (t, a) => tmps.setIfInBounds t a) al.tmps = (ps.toList.zip (XV.denL ρ1 γ1 args)).foldl (fun t (p : Nat × Value) => t.setIfInBounds p.1 p.2) al.tmps := by
      rw [← Array.foldl_toList]
      simp
     rw [htm]
     refine roundIn_of_wpIn trivial ?_
     let Er : XEnv := ⟨E'.w, E'.X, []⟩
     refine hxa (E := Er) hxa' ⟨⟨rfl, List.nodup_nil, fun _ h => (by cases h)⟩, p2, p3, hH.ownless []⟩ fun a1 w1 hh => ?_
     obtain ⟨E1, ρ2, γ2, ⟨_, x1⟩, x2, x3⟩ := hh
     obtain rfl := x1 rfl
     have hl1 := x2.hp.st.fx l _ hX
     refine ⟨_, run_beginRound hl1 (by rw [hrec]), ?_⟩
     let Eb : XEnv := ⟨E'.w, fun B => if B = l then some (.loop { rec with state := .busy }) else E'.X B, []⟩
     have hturn : XH Eb ρ2 γ2 H2 (w1.putObj l (.loop { rec with state := .busy })) := x2.hp.turn (E2 := Eb) (l := l) (ob := .loop { rec with state := .busy }) rfl ⟨_, hX⟩ hlb (fun B hB => by
      simp only [Eb]
      rw [if_neg (fun e => by rw [e] at hB; simp only [Er] at hB; rw [hX] at hB; cases hB)]
      exact hB) (fun B x hB => by
      simp only [Eb] at hB
      split at hB
      ·rename_i e; injection hB with hB; exact .inl ⟨e, hB.symm⟩
      ·rename_i e; exact .inr ⟨e, hB⟩)
     refine hxb (E := Eb) hxb' ⟨⟨x2.df.1, List.nodup_nil, fun _ h => (by cases h)⟩, x2.sz, x2.fr, hturn⟩ fun a2 w2 hh => ?_
     obtain ⟨E2, ρ3, γ3, ⟨_, y1⟩, y2, y3⟩ := hh
     obtain rfl := y1 rfl
     have hEl : Eb.X l = some (.loop { rec with state := .busy }) := if_pos rfl
     have hl2 := y2.hp.st.fx l _ hEl
     refine ⟨_, _, run_endRound none hl2, rfl, ρ3, γ3, ?_, x3.trans y3⟩
     have hrec2 : ({ { rec with state := .busy } with state := if (none : Option Code).isNone then .ready else .done, pending := none } : Loop) = rec := by rw [hrec]; rfl
     rw [hrec2]
     refine y2.hp.turn (E2 := E') (l := l) (ob := .loop rec) rfl ⟨_, hEl⟩ hlb (fun B hB => ?_) (fun B x hB => ?_)
     ·simp only [Eb] at hB
      split at hB
      ·cases hB
      ·exact hB
     ·by_cases hBl : B = l
      ·subst hBl
       rw [hX] at hB
       injection hB with hB
       exact .inl ⟨rfl, hB.symm⟩
      ·refine .inr ⟨hBl, ?_⟩
       simp only [Eb]
       rw [if_neg hBl]
       exact hB
   ·cases h
  ·cases h
 ·cases h
theorem zg1 (hm : P.follows .mixedOrders = true) (hc : XCfOk P call) : ∀ (n : Nat) {N m : Nat} {yh : XYh} {rd : Bool} {Fe : Fence} {c : Code} {F : XFr} {H : XHp} {k k' : Nat} {e : Exit} {F' : XFr} {H' : XHp} {w0 : XEnv} {ρ γ : Nat → Nat} {a : Act} {w : World} {Q : Exit → Act → World → Prop}, XF rd Fe → (rd = true → yh = none) → xcode P call n N yh rd c F H k = some (e, F', H', k') → XR N w0 ρ γ F H a w → XYS P w0 ρ γ H yh → (∀ a' w', XPostE rd N w0 ρ γ H F' H' a' w' → Q e a' w') → c.wpIn Fe m P Q a w ∧ ∀ b, c = .loop b → Code.roundsIn Fe m P b Q n a w
 | 0, N, m, yh, rd, Fe, c, F, H, k, k', e, F', H', w0, ρ, γ, a, w, Q, hF, hr, h, hR, hY, hQ => by cases h
 | n + 1, N, m, yh, rd, Fe, c, F, H, k, k', e, F', H', w0, ρ, γ, a, w, Q, hF, hr, h, hR, hY, hQ => by
  have now : XPostE rd N w0 ρ γ H F H a w := ⟨w0, ρ, γ, ⟨Ext.refl _, fun _ => rfl⟩, hR, Agr.refl _ _ _⟩
  unfold xcode at h
  split at h
  ·simp only [Option.some.injEq, Prod.mk.injEq] at h
   obtain ⟨rfl, rfl, rfl, rfl⟩ := h
   exact ⟨wpIn_skip (hQ _ _ now), fun b hb => by cases hb⟩
  ·rename_i id ops draw
   refine ⟨?_, fun b hb => by cases hb⟩
   cases draw with
   | false =>
    simp only at h
    split at h
    ·rename_i s hs
     simp only [Option.some.injEq, Prod.mk.injEq] at h
     obtain ⟨rfl, rfl⟩ := h
     refine wpIn_region_list ?_
     have := xlist_ok (Q := Q) (n := m) hF hr hc hs hR hY fun a' w' hh => hQ _ _ (XPostE.of hh)
     simpa using this
    ·cases h
   | true =>
    simp only at h
    split at h
    ·split at h
     ·rename_i s hs
      simp only [Option.some.injEq, Prod.mk.injEq] at h
      obtain ⟨rfl, rfl⟩ := h
      obtain rfl : Fe = Fence.wide := by
       rcases hF with ⟨_, h⟩ | ⟨h, _⟩
       ·exact h
       ·cases h
      exact wpIn_wide.2 (xdraw_ok hm hc hs hR fun a' w' hh => hQ _ _ (XPostE.of hh))
     ·cases h
    ·cases h
  ·rename_i x y
   refine ⟨wpIn_seq ?_, fun b hb => by cases hb⟩
   cases hx : xcode P call n N yh rd x F H k with
   | none => rw [hx] at h; cases h
   | some r =>
    obtain ⟨e1, F1, H1, k1⟩ := r
    rw [hx] at h
    refine (zg1 hm hc n hF hr hx hR hY fun a' w' hh => ?_).1
    cases e1
    case normal =>
     simp only at h
     obtain ⟨E1, ρ1, γ1, ⟨q1, q2⟩, h1, h2⟩ := hh
     exact (zg1 hm hc n hF hr h h1 (hY.step q1 h2) fun a2 w2 ⟨E2, ρ2, γ2, ⟨q3, q4⟩, h3, h4⟩ => hQ _ _ ⟨E2, ρ2, γ2, ⟨q1.trans q3, fun hh => (q4 hh).trans (q2 hh)⟩, h3, h2.trans h4⟩).1
    all_goals
     simp only [Option.some.injEq, Prod.mk.injEq] at h
     obtain ⟨rfl, rfl, rfl, rfl⟩ := h
     exact hQ _ _ hh
  ·rename_i x t e'
   refine ⟨?_, fun b hb => by cases hb⟩
   split at h
   ·rename_i hx; exact wpIn_cond_true (hR.evp hx) (zg1 hm hc n hF hr h hR hY hQ).1
   ·rename_i hx; exact wpIn_cond_false (hR.evp hx) (zg1 hm hc n hF hr h hR hY hQ).1
   ·cases h
  ·rename_i id b
   refine ⟨wpIn_block ?_, fun b hb => by cases hb⟩
   cases hx : xcode P call n N yh rd b F H k with
   | none => rw [hx] at h; cases h
   | some r =>
    obtain ⟨e1, F1, H1, k1⟩ := r
    rw [hx] at h
    refine (zg1 hm hc n hF hr hx hR hY fun a' w' hh => ?_).1
    cases e1
    case exit id' =>
     simp only at h
     simp only [Exit.inBlock]
     split at h
     ·rename_i hb
      simp only [Option.some.injEq, Prod.mk.injEq] at h
      obtain ⟨rfl, rfl, rfl, rfl⟩ := h
      rw [if_pos (Nat.eq_of_beq_eq_true hb)]
      exact hQ _ _ hh
     ·rename_i hb
      simp only [Option.some.injEq, Prod.mk.injEq] at h
      obtain ⟨rfl, rfl, rfl, rfl⟩ := h
      rw [if_neg (Nat.ne_of_beq_eq_false hb)]
      exact hQ _ _ hh
    all_goals
     simp only [Option.some.injEq, Prod.mk.injEq] at h
     obtain ⟨rfl, rfl, rfl, rfl⟩ := h
     exact hQ _ _ hh
  ·rename_i b
   have key : Code.roundsIn Fe m P b Q (n + 1) a w := by
    split at h
    ·rename_i q hq
     cases hck : xmchk P N call yh (xcode P call n N yh rd q.tail) n F H k q with
     | false => rw [hck] at h; cases h
     | true =>
      rw [hck] at h
      simp only [cond_true] at h
      obtain ⟨_, _, _, _, _, _, _, _, _, _, _, _, _, _, hbi, _⟩ := xmrec_ok hq
      have hc' := hck
      unfold xmchk at hc'
      simp only [Bool.and_eq_true] at hc'
      obtain ⟨⟨⟨⟨⟨_, c2⟩, _⟩, _⟩, c5⟩, _⟩ := hc'
      rw [Nat.blt_eq] at c5
      exact xml_ok hF hr hc hq hck h (fun hx hR hY hQ => (zg1 hm hc n hF hr hx hR hY hQ).1) hY hQ q.bs.length (n + 1) (by omega) (E := w0) (ρ := ρ) (γ := γ) (seen := []) (last := q.last) (Hs := H) ⟨Ext.refl _, fun _ => rfl⟩ (fun i => by split; (rename_i e; rw [e]; exact hbi); rfl) (Agr.refl _ _ _) hR (Nat.le_of_ble_eq_true c2) (List.length_filter_le _ _)
    ·rw [roundsIn_succ]
     cases hx : xcode P call n N yh rd b F H k with
     | none => rw [hx] at h; cases h
     | some r =>
      obtain ⟨e1, F1, H1, k1⟩ := r
      rw [hx] at h
      refine (zg1 hm hc n hF hr hx hR hY fun a' w' hh => ?_).1
      cases e1
      case normal =>
       simp only at h
       obtain ⟨E1, ρ1, γ1, ⟨q1, q2⟩, h1, h2⟩ := hh
       exact (zg1 hm hc n hF hr h h1 (hY.step q1 h2) fun a2 w2 ⟨E2, ρ2, γ2, ⟨q3, q4⟩, h3, h4⟩ => hQ _ _ ⟨E2, ρ2, γ2, ⟨q1.trans q3, fun hh => (q4 hh).trans (q2 hh)⟩, h3, h2.trans h4⟩).2 b rfl
      all_goals
       simp only [Option.some.injEq, Prod.mk.injEq] at h
       obtain ⟨rfl, rfl, rfl, rfl⟩ := h
       exact hQ _ _ hh
   refine ⟨wpIn_loop_rounds (n + 1) key, fun b' hb => ?_⟩
   injection hb with hb
   subst hb
   exact key
  ·simp only [Option.some.injEq, Prod.mk.injEq] at h
   obtain ⟨rfl, rfl, rfl, rfl⟩ := h
   exact ⟨wpIn_exit (hQ _ _ now), fun b hb => by cases hb⟩
  ·simp only [Option.some.injEq, Prod.mk.injEq] at h
   obtain ⟨rfl, rfl, rfl, rfl⟩ := h
   exact ⟨wpIn_ret (hQ _ _ now), fun b hb => by cases hb⟩
  ·simp only [Option.some.injEq, Prod.mk.injEq] at h
   obtain ⟨rfl, rfl, rfl, rfl⟩ := h
   exact ⟨wpIn_label (hQ _ _ now), fun b hb => by cases hb⟩
  ·rename_i g ps assign body
   refine ⟨?_, fun b hb => by cases hb⟩
   split at h
   ·rename_i gf caps hg
    cases hok : okFn P gf with
    | false => rw [hok] at h; cases h
    | true =>
     rw [hok] at h
     simp only [cond_true] at h
     split at h
     ·rename_i H1 hn
      split at h
      ·rename_i u H2 k2 hx
       simp only [Option.some.injEq, Prod.mk.injEq] at h
       obtain ⟨rfl, rfl, rfl, rfl⟩ := h
       obtain rfl : Fe = Fence.wide := by
        rcases hF with ⟨_, h⟩ | ⟨h, _⟩
        ·exact h
        ·cases h
       obtain ⟨f1, f2⟩ := hR.evn hg
       refine wpIn_rangeFunc fun fn _ => ?_
       let D := w.heap.size
       let l := w.heap.size + 1
       let rec_ : Loop := { state := .ready, pending := none, fn := fn, tmps := a.tmps, params := ps, assign := assign, body := body, defers := D }
       let w1 := (w.alloc (.deferred (some []))).alloc (.loop rec_)
       have hsz1 : (w.alloc (.deferred (some []))).heap.size = w.heap.size + 1 := by simp
       let E1 : XEnv := ⟨w0.w, pin (pin w0.X w.heap.size (.deferred (some []))) (w.heap.size + 1) (.loop rec_), w0.own⟩
       have hH1 : XH E1 ρ γ H w1 := by
        have h1 := (hR.hp.pin (own := w0.own) (.deferred (some []))).pin (own := w0.own) (.loop rec_)
        rw [hsz1] at h1
        exact h1
       obtain ⟨hH2, hA2⟩ := hH1.name hn l
       have hkb : (H1.get k).isSome = true := by rw [(zW1 hn).2, if_pos rfl]; rfl
       have hcaps : XV.okL (H1.has (upd γ k 0)) (XV.yl k :: caps) := ⟨⟨hkb, Nat.zero_le _⟩, by
        rw [XV.okL_iff]
        rw [XV.ok, XV.okL_iff] at f2
        exact fun x hx => hA2.ok (f2 x hx)⟩
       have hXl : E1.X l = some (.loop rec_) := if_pos rfl
       have hlb : E1.w.heap.size ≤ l := Nat.le_trans hR.hp.st.size (Nat.le_succ _)
       have hRl : N ≤ a.tmps.size ∧ ∀ i x, F.get i = some x → a.tmps[i]? = some (x.den (upd ρ k l) (upd γ k 0)) ∧ x.ok (H1.has (upd γ k 0)) := ⟨hR.sz, fun i x hi => by
        obtain ⟨h1, h2⟩ := hR.fr i x hi
        exact ⟨by rw [hA2.den h2]; exact h1, hA2.ok h2⟩⟩
       have hcall := xenter_ok (w0 := E1) (n := m - 1) hx (fun N' c' F0 e' F3 k3 a' Q' hr' hR' hQ' => by
        refine (zg1 hm hc n (m := m - 1) (.inl ⟨rfl, rfl⟩) (fun h => by cases h) hr' hR' ?_ hQ').1
        refine ⟨hkb, H1, upd ρ k l, upd γ k 0, Agr.refl _ _ _, ?_⟩
        rw [zN1]
        intro E' hE' args H4 k4 H5 k5 hround ρ4 γ4 w4 hH4 hok4 hA4 n4
        exact xround_ok (m := n4) (l := l) (D := D) (fn := fn) (al := a)
         (fun hx hR hQ => (zg1 hm hc n (.inr ⟨rfl, l, rfl⟩) (fun _ => rfl) hx hR trivial hQ).1)
         (fun hx hR hQ => (zg1 hm hc n (.inr ⟨rfl, l, rfl⟩) (fun _ => rfl) hx hR trivial hQ).1)
         rfl (hE'.2.1 l _ hXl) (by rw [hE'.1]; exact hlb) hRl hround hH4 hok4 hA4) hH2 hcaps
       refine ⟨l, [⟨.collected D, #[]⟩], w1, ⟨.fn (.func gf) (XV.denL ρ γ caps).toArray, #[.func (.yield l) #[] #[]]⟩, w1, gf, (XV.denL (upd ρ k l) (upd γ k 0) (XV.yl k :: caps)).toArray, w1, ?_, ?_, fun _ _ => trivial, ?_, fun h => (by cases h), hcall.mono ?_⟩
       ·exact run_enterLoop_outer (P := P) (w := w) fn a.tmps ps assign body
       ·simp only [resolve, rangeCall, f1, XV.den, Deferred.ofValue]
        simp [Act.eval]
       ·have : #[Value.func (.yield l) #[] #[]] ++ (XV.denL ρ γ caps).toArray = (XV.denL (upd ρ k l) (upd γ k 0) (XV.yl k :: caps)).toArray := by
         rw [XV.denL, XV.den, zN1]
         have hd : XV.denL (upd ρ k l) (upd γ k 0) caps = XV.denL ρ γ caps := by
          rw [XV.denL_eq, XV.denL_eq]
          rw [XV.ok, XV.okL_iff] at f2
          exact List.map_congr_left fun x hx => hA2.den (f2 x hx)
         rw [hd]
         simp
        simp only [invoke, this]
        exact zO1 hok
       ·rintro e' w3 ⟨ρ3, γ3, rfl, r1, r2, r3⟩
        have hl3 := r1.st.fx l _ hXl
        refine ⟨none, _, run_endLoop hl3 (by simp [rec_]), ?_⟩
        refine hQ _ _ ?_
        let E2 : XEnv := ⟨w0.w, pin w0.X w.heap.size (.deferred (some [])), w.heap.size :: w0.own⟩
        have hnX : w0.X w.heap.size = none := hR.hp.st.new
        have hnXl : w0.X l = none := by
         cases hq : w0.X l with
         | none => rfl
         | some ob => have h1 := hR.hp.st.lt hq; have h2 : l = w.heap.size + 1 := rfl; omega
        have hturn : XH E2 ρ3 γ3 H2 (w3.putObj l (.loop { rec_ with state := .exhausted })) := r1.turn (E2 := E2) (l := l) (ob := .loop { rec_ with state := .exhausted }) rfl ⟨_, hXl⟩ hlb (fun B hB => by
         simp only [E1, pin] at hB
         simp only [E2, pin]
         split at hB
         ·cases hB
         ·exact hB) (fun B x hB => by
         simp only [E2, pin] at hB
         refine .inr ⟨fun e => ?_, ?_⟩
         ·rw [e] at hB
          split at hB
          ·rename_i e2; have h2 : l = w.heap.size + 1 := rfl; omega
          ·rw [hnXl] at hB; cases hB
         ·simp only [E1, pin]
          split
          ·rename_i e
           exfalso
           rw [e] at hB
           split at hB
           ·omega
           ·have h2 : l = w.heap.size + 1 := rfl
            rw [← h2, hnXl] at hB; cases hB
          ·exact hB)
        have hAll := hA2.trans r3
        refine ⟨E2, ρ3, γ3, ⟨⟨rfl, fun B ob hB => ?_, fun D' hD' => ?_⟩, fun h => (by cases h)⟩, ⟨⟨?_, ?_, fun D' hD' => ?_⟩, hR.sz, fun i x hi => ?_, hturn⟩, hAll⟩
        ·simp only [E2, pin]
         rw [if_neg (fun e => by rw [e, hnX] at hB; cases hB)]
         exact hB
        ·rcases List.mem_cons.1 hD' with rfl | h
         ·exact .inr hnX
         ·exact .inl h
        ·simp only [E2, List.map_cons, List.singleton_append, hR.df.1]
         rfl
        ·refine List.nodup_cons.2 ⟨fun h => ?_, hR.df.2.1⟩
         have := (hR.df.2.2 _ h).1
         rw [hnX] at this; cases this
        ·rcases List.mem_cons.1 hD' with rfl | h
         ·exact ⟨if_pos rfl, hR.hp.st.size⟩
         ·obtain ⟨d1, d2⟩ := hR.df.2.2 _ h
          refine ⟨?_, d2⟩
          simp only [E2, pin]
          rw [if_neg (fun e => by rw [e, hnX] at d1; cases d1)]
          exact d1
        ·obtain ⟨h1, h2⟩ := hR.fr i x hi
         exact ⟨by rw [hAll.den h2]; exact h1, hAll.ok h2⟩
      ·cases h
     ·cases h
   ·cases h
  ·cases h
end
end
section
open Go Go.RowKit
set_option maxRecDepth 100000
def xcall (P : Program) (orc : XCf) : Nat → XCf
 | 0, f, args, H, k => orc f args H k
 | n + 1, f, args, H, k => match orc f args H k with
  | some r => some r
  | none => xenter P (fun N c F H k => xcode P (xcall P orc n) 3000 N none false c F H k) f args H k
theorem callsIn_plain {P : Program} {f : FuncId} {args : Array Value} {w : World} {R : Ending → World → Prop} (h : CallsIn Fence.wide 0 P f args w R) : Calls P f args w R := callsIn_wide.1 h
theorem xcall_ok {P : Program} (hm : P.follows .mixedOrders = true) {orc : XCf} (ho : XCfOk P orc) : ∀ n, XCfOk P (xcall P orc n)
 | 0 => fun f args H k u H' k' h => ho f args H k u H' k' h
 | n + 1 => fun f args H k u H' k' h => by
  unfold xcall at h
  split at h
  ·rename_i r hr
   injection h with h
   subst h
   exact ho f args H k u H' k' hr
  ·intro w0 ρ γ w hH hok
   refine callsIn_plain (xenter_ok (n := 0) h (fun N c F e F' k2 a Q hx hR hQ => ?_) hH hok)
   exact (zg1 hm (xcall_ok hm ho n) 3000 (m := 0) (.inl ⟨rfl, rfl⟩) (fun h => by cases h) hx hR trivial hQ).1
def xnone : XCf := fun _ _ _ _ => none
theorem xnone_ok (P : Program) : XCfOk P xnone := fun f args H k u H' k' h => by cases h
def xrun (P : Program) (orc : XCf) (f : FuncId) : Option Value := match xcall P orc 60 f [] .nil 0 with
 | some (.v u, _, _) => some u
 | _ => none
theorem acalls_of_xrun {P : Program} (hm : P.follows .mixedOrders = true) {orc : XCf} (ho : XCfOk P orc) {f : FuncId} {u : Value} (h : xrun P orc f = some u) : ACalls P f [] [] fun v H => v = .c (.s u) ∧ H = [] := fun S ρ w hp hw => by
 unfold xrun at h
 split at h
 ·rename_i u' H' k' hx
  injection h with h
  subst h
  have hH : XH ⟨w, fun _ => none, []⟩ (fun _ => 0) (fun _ => 0) .nil w := ⟨fun i j o o' h => (by cases h), fun i o h => (by cases h), fun i o h => (by cases h), fun i o h => (by cases h), ⟨Stp.refl _ _, fun B ob h => (by cases h)⟩⟩
  refine (xcall_ok hm ho 60 _ _ _ _ _ _ _ hx _ _ _ w hH trivial).mono ?_
  rintro e w' ⟨ρ', γ', rfl, h1, _, _⟩
  have hρ : ρ = [] := List.eq_nil_of_length_eq_zero hp.len
  subst hρ
  have hst := h1.st
  refine ⟨.c (.s u'), [], [], S, rfl, ⟨rfl, rfl⟩, .c (.s u'), ⟨rfl, fun i i' B h => (by cases h), fun i B h => (by cases h), fun i B h => (by cases h), fun b hb => Nat.lt_of_lt_of_le (hp.sS b hb) hst.size, fun i o h => (by simp at h), PL.none fun _ _ _ => inP_nil⟩, ⟨hst.os, hst.tape, hst.output, hst.size, fun b hb _ => hst.block b hb (fun h => h), hst.drawn⟩, fun b hb => .inl hb, fun i B h => (by cases h), fun i k B h => absurd h inP_nil, fun i hi => (by simp at hi), fun h => (by cases h)⟩
 ·cases h
end
end Go.Proofs.YtcchlddiggmcaaaGreatDoor
