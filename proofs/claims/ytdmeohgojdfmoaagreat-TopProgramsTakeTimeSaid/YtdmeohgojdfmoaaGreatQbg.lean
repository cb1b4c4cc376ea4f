/- The logic over values: an array that was lent may give way to one that is new. -/
import Derived.Test.YtdmeohgojdfmoaaGreatQbf
import Derived.Test.YtdmeohgojdfmoaaGreatQay
import Derived.Test.YtdmeohgojdfmoaaGreatQao
set_option linter.unusedSimpArgs false
set_option linter.unusedVariables false
/- The stream's legs and corners, as functions of its numbers and its counter. -/
namespace Go.Proofs.YtdmeohgojdfmoaaGreat
open Go Go.RowKit
set_option maxRecDepth 100000
def legsN (zs : List Int) (a : Int) (k : Nat) : List Leg := (List.range k).map fun (i : Nat) => ⟨pickF zs (a + 2 * i) [1, 5, 20, 100, 1000], pickF zs (a + 2 * i + 1) [10, 50, 100, 500]⟩
theorem legsN_len (zs : List Int) (a : Int) (k : Nat) : (legsN zs a k).length = k := by simp [legsN]
theorem legsN_next (zs : List Int) (a : Int) (k : Nat) : legsN zs a (k + 1) = legsN zs a k ++ [⟨pickF zs (a + 2 * k) [1, 5, 20, 100, 1000], pickF zs (a + 2 * k + 1) [10, 50, 100, 500]⟩] := by
  simp [legsN, List.range_succ]
def legF (zs : List Int) (a most : Int) : List Leg × Int :=
  if nextF zs ((rangeF zs a 1 most).2 + 2 * (rangeF zs a 1 most).1) 12 = 0 then
    if nextF zs ((rangeF zs a 1 most).2 + 2 * (rangeF zs a 1 most).1 + 1) 3 = 0 then ([], (rangeF zs a 1 most).2 + 2 * (rangeF zs a 1 most).1 + 1 + 1)
    else if nextF zs ((rangeF zs a 1 most).2 + 2 * (rangeF zs a 1 most).1 + 1) 3 = 1 then
      ((legsN zs (rangeF zs a 1 most).2 (rangeF zs a 1 most).1.toNat).set (nextF zs ((rangeF zs a 1 most).2 + 2 * (rangeF zs a 1 most).1 + 1 + 1) (rangeF zs a 1 most).1).toNat
        ⟨(oddF zs ((rangeF zs a 1 most).2 + 2 * (rangeF zs a 1 most).1 + 1 + 1 + 1) 1 200000).1, pickF zs (oddF zs ((rangeF zs a 1 most).2 + 2 * (rangeF zs a 1 most).1 + 1 + 1 + 1) 1 200000).2 [10, 100000]⟩,
        (oddF zs ((rangeF zs a 1 most).2 + 2 * (rangeF zs a 1 most).1 + 1 + 1 + 1) 1 200000).2 + 1)
    else
      ((legsN zs (rangeF zs a 1 most).2 (rangeF zs a 1 most).1.toNat).set (nextF zs ((rangeF zs a 1 most).2 + 2 * (rangeF zs a 1 most).1 + 1 + 1) (rangeF zs a 1 most).1).toNat
        ⟨pickF zs ((rangeF zs a 1 most).2 + 2 * (rangeF zs a 1 most).1 + 1 + 1 + 1) [5, 200000], (oddF zs ((rangeF zs a 1 most).2 + 2 * (rangeF zs a 1 most).1 + 1 + 1 + 1 + 1) 1 100000).1⟩,
        (oddF zs ((rangeF zs a 1 most).2 + 2 * (rangeF zs a 1 most).1 + 1 + 1 + 1 + 1) 1 100000).2)
  else (legsN zs (rangeF zs a 1 most).2 (rangeF zs a 1 most).1.toNat, (rangeF zs a 1 most).2 + 2 * (rangeF zs a 1 most).1 + 1)
def cornsN (zs : List Int) (a : Int) (k : Nat) : List Int := (List.range k).map fun (i : Nat) => pickF zs (a + i) [0, 10, 50, 200, 1000]
theorem cornsN_len (zs : List Int) (a : Int) (k : Nat) : (cornsN zs a k).length = k := by simp [cornsN]
theorem cornsN_next (zs : List Int) (a : Int) (k : Nat) : cornsN zs a (k + 1) = cornsN zs a k ++ [pickF zs (a + k) [0, 10, 50, 200, 1000]] := by simp [cornsN, List.range_succ]
def cornLF (zs : List Int) (a n : Int) : List Int × Int :=
  if nextF zs (a + (n - 1).toNat) 12 = 0 then
    if 0 < (n - 1).toNat then
      if nextF zs (a + (n - 1).toNat + 1 + 1) 2 = 0 then ((cornsN zs a (n - 1).toNat ++ [pickF zs (a + (n - 1).toNat + 1) [0, -1, 100000, 100001]]).drop 1, a + (n - 1).toNat + 1 + 1 + 1)
      else (cornsN zs a (n - 1).toNat ++ [pickF zs (a + (n - 1).toNat + 1) [0, -1, 100000, 100001]], a + (n - 1).toNat + 1 + 1 + 1)
    else (cornsN zs a (n - 1).toNat ++ [pickF zs (a + (n - 1).toNat + 1) [0, -1, 100000, 100001]], a + (n - 1).toNat + 1 + 1)
  else (cornsN zs a (n - 1).toNat, a + (n - 1).toNat + 1)
end Go.Proofs.YtdmeohgojdfmoaaGreat

/- The logic over values: an array that was lent may give way to one that is new. -/
namespace Go.Proofs.YtdmeohgojdfmoaaGreat
open Go Go.RowKit
section
variable {N : Nat} {E : Env} {F : Fm} {H : List OB} {K : Fm → List OB → Prop}
/-- Restating, with lent arrays (not variables) put in another block that is new. -/
theorem wk_ofr (m : List (Option Nat)) (F' : (AV → Value) → Fm) (H' : (AV → Value) → List OB) (hm : (m.filterMap id).Nodup) (hp : E.pin = false)
    (hl : ∀ i, i < E.H0.length → ∃ j, m[i]? = some (some j) ∧ (j = i ∨ (E.H0.length ≤ j ∧ ∀ o, H[i]? = some o → o.shp = 0))) (hk : ∀ i b, m[i]? = some (some b) → b < E.H0.length → i = b)
    (hF : ∀ g, CvF g m H false F (F' g)) (hH : ∀ g, CvH g m H false m (H' g)) (h : ∀ g, K (F' g) (H' g)) : Wk N E F H K := fun S ρ a w hR => by
  have hH' := hH (AV.den ρ H)
  refine ⟨newS false m ρ H S, reB ρ m, _, _, h (AV.den ρ H), hR.df, hR.sz, fun i x' hx' => ?_, hR.hp.re rfl hm hH', hR.st, fun i B hi => ?_, fun b hb => ?_, fun i hi => ?_, fun hpp i hi => ?_⟩
  · obtain ⟨x, h1, h2⟩ := (hF (AV.den ρ H)).get i x' hx'
    obtain ⟨h3, h4⟩ := hR.fr i x h1
    obtain ⟨h5, h6⟩ := h2.sound hR.hp rfl hH' h4
    exact ⟨by rw [h5]; exact h3, h6⟩
  · rw [atB_reB] at hi
    cases h1 : m[i]? with
    | none => rw [h1] at hi; cases hi
    | some y =>
      cases y with
      | none => rw [h1] at hi; cases hi
      | some b =>
        rw [h1] at hi
        rcases hR.nw b B hi with h2 | ⟨h2, h3⟩
        · exact .inl h2
        · have := hk i b h1 h2
          subst this
          exact .inr ⟨h2, h3⟩
  · rcases hb with hb | ⟨hf, _⟩
    · exact hR.nS b hb
    · cases hf
  · obtain ⟨h1, h2⟩ := hR.ln i hi
    obtain ⟨j, hmi, hj⟩ := hl i hi
    refine ⟨(hH'.at_ hmi).1, fun o ho hs => ?_⟩
    obtain ⟨h3, o', h4, h4s⟩ := h2 o ho hs
    rcases hj with rfl | ⟨_, h5⟩
    · obtain ⟨o2, h6, h7⟩ := hH'.shp hmi h4 (by rw [h4s]; exact hs)
      exact ⟨by rw [atB_reB, hmi]; exact h3, o2, h6, h7.trans h4s⟩
    · exact absurd (h5 o' h4) (by rw [h4s]; exact hs)
  · rw [hp] at hpp; cases hpp
/-- What is left may be restated at the end. -/
theorem aw_post {P : Program} {c : Code} {Q : Exit → Fm → List OB → Prop} (h : AW P N E c F H (fun e F H => Wk N E F H (Q e))) : AW P N E c F H Q := fun S ρ a w hR =>
  wp_mono (h S ρ a w hR) fun _ a' w' ⟨S1, ρ1, F1, H1, h1, hR1⟩ => by
    obtain ⟨S2, ρ2, F2, H2, h2, hR2⟩ := h1 S1 ρ1 a' w' hR1
    exact ⟨S2, ρ2, F2, H2, h2, hR2⟩
def okR (n : Nat) (m : List (Option Nat)) (H : List OB) : Bool :=
  ((List.range n).all fun i => match m[i]? with
    | some (some j) => Nat.beq j i || (Nat.ble n j && match H[i]? with | some (.box _) => false | some (.map _ _) => false | _ => true)
    | _ => false) && ((List.range m.length).all fun i => match m[i]? with
    | some (some b) => Nat.ble n b || Nat.beq b i
    | _ => true)
theorem okR_l {n : Nat} {m : List (Option Nat)} (hE : E.H0.length = n) (h : okR n m H = true) : ∀ i, i < E.H0.length → ∃ j, m[i]? = some (some j) ∧ (j = i ∨ (E.H0.length ≤ j ∧ ∀ o, H[i]? = some o → o.shp = 0)) := fun i hi => by
  unfold okR at h
  rw [Bool.and_eq_true] at h
  have h1 := List.all_eq_true.1 h.1 i (by rw [List.mem_range]; omega)
  split at h1
  · rename_i j hj
    refine ⟨j, hj, ?_⟩
    rw [Bool.or_eq_true, Bool.and_eq_true] at h1
    rcases h1 with h1 | ⟨h1, h2⟩
    · exact .inl (Nat.eq_of_beq_eq_true h1)
    · refine .inr ⟨by have := Nat.le_of_ble_eq_true h1; omega, ?_⟩
      intro o hl
      rw [hl] at h2
      cases o <;> first | rfl | cases h2
  · cases h1
theorem okR_k {n : Nat} {m : List (Option Nat)} (hE : E.H0.length = n) (h : okR n m H = true) : ∀ i b, m[i]? = some (some b) → b < E.H0.length → i = b := fun i b hi hb => by
  unfold okR at h
  rw [Bool.and_eq_true] at h
  have h1 := List.all_eq_true.1 h.2 i (by rw [List.mem_range]; exact (List.getElem?_eq_some_iff.1 hi).1)
  rw [hi] at h1
  simp only [Bool.or_eq_true] at h1
  rcases h1 with h1 | h1
  · have := Nat.le_of_ble_eq_true h1; omega
  · exact (Nat.eq_of_beq_eq_true h1).symm
theorem wk_ofk {n : Nat} (m : List (Option Nat)) (F' : (AV → Value) → Fm) (H' : (AV → Value) → List OB) (hE : E.H0.length = n) (hp : E.pin = false) (hm : (m.filterMap id).Nodup) (ho : okR n m H = true) (hF : ∀ g, CvF g m H false F (F' g)) (hH : ∀ g, CvH g m H false m (H' g)) (h : ∀ g, K (F' g) (H' g)) : Wk N E F H K :=
  wk_ofr m F' H' hm hp (okR_l hE ho) (okR_k hE ho) hF hH h
/-- A value is said by its cells alone; a new block says which it is. -/
theorem wk_ghost {i : Nat} {x : AV} (hx : F.lookup i = some x) (h : ∀ ρ : List (Option Nat), K ((i, .c (.s (x.den ρ H))) :: F) (H ++ [.eqv x (x.den ρ H)])) : Wk N E F H K := fun S ρ a w hR => by
  have he := Ex.snoc (ρ := ρ) (H := H) hR.hp.len none (.eqv x (x.den ρ H))
  obtain ⟨h1, h2⟩ := hR.fr i x hx
  have hR2 : R N E S (ρ ++ [none]) F (H ++ [.eqv x (x.den ρ H)]) a w := by
    refine hR.ex he Mo.refl ⟨by simp [hR.hp.len], fun j j' B hj hj' => ?_, fun j B hj => ?_, fun j B hj => ?_, hR.hp.sS, fun j o ho => ?_⟩ hR.st (fun j B hj => ?_) hR.nS
    · rw [atB_snoc] at hj hj'
      split at hj
      · cases hj
      · split at hj'
        · cases hj'
        · exact hR.hp.nd j j' B hj hj'
    · rw [atB_snoc] at hj
      split at hj
      · cases hj
      · exact hR.hp.ap j B hj
    · rw [atB_snoc] at hj
      split at hj
      · cases hj
      · exact hR.hp.lt j B hj
    · rcases Nat.lt_or_ge j H.length with hlt | hge
      · rw [List.getElem?_append_left hlt] at ho
        rw [atB_snoc, if_neg (by rw [hR.hp.len]; omega)]
        exact (hR.hp.blk j o ho).ex he Mo.refl (fun _ _ => rfl)
      · rw [List.getElem?_append_right hge] at ho
        cases hq : j - H.length with
        | zero =>
          rw [hq] at ho
          simp only [List.getElem?_cons_zero, Option.some.injEq] at ho
          subst ho
          exact ⟨h2.den_ex he, h2.ex he Mo.refl⟩
        | succ n => rw [hq] at ho; simp at ho
    · rw [atB_snoc] at hj
      split at hj
      · cases hj
      · exact hR.nw j B hj
  refine ⟨S, ρ ++ [none], _, _, h ρ, hR2.df, hR2.sz, fun j y hj => ?_, hR2.hp, hR2.st, hR2.nw, hR2.nS, hR2.ln, hR2.pn⟩
  rw [List.lookup_cons] at hj
  split at hj
  · rename_i he2
    obtain rfl : j = i := by simpa using he2
    injection hj with hj
    subst hj
    exact ⟨h1, .c (.s _)⟩
  · exact hR2.fr j y hj
/-- .. and back. -/
theorem wk_thaw {i b : Nat} {x : AV} {v : Value} (hx : F.lookup i = some (.c (.s v))) (hb : H[b]? = some (.eqv x v)) (h : K ((i, x) :: F) H) : Wk N E F H K := fun S ρ a w hR => by
  obtain ⟨h1, h2⟩ := hR.hp.blk b _ hb
  refine ⟨S, ρ, _, _, h, hR.df, hR.sz, fun j y hj => ?_, hR.hp, hR.st, hR.nw, hR.nS, hR.ln, hR.pn⟩
  rw [List.lookup_cons] at hj
  split at hj
  · rename_i he2
    obtain rfl : j = i := by simpa using he2
    injection hj with hj
    subst hj
    exact ⟨by rw [h1]; exact (hR.fr j _ hx).1, h2⟩
  · exact hR.fr j y hj
end
section
variable {P : Program} {N : Nat} {E : Env} {F : Fm} {H : List OB} {K : Fm → List OB → Prop} {Q : Exit → Fm → List OB → Prop} {ops : Array Oper}
theorem at_wk {L : List (Nat × Option (List Nat))} (h : Wk N E F H K) (hk : ∀ F' H', K F' H' → AT P N E ops L F' H' Q) : AT P N E ops L F H Q := fun S ρ a w hR => by
  obtain ⟨S', ρ', F', H', h1, h2⟩ := h S ρ a w hR
  exact hk F' H' h1 S' ρ' a w h2
theorem am_wk {n : Nat} {ps : List Plan} (h : Wk N E F H K) (hk : ∀ F' H', K F' H' → AM P N E ops n ps F' H' Q) : AM P N E ops n ps F H Q := fun S ρ a w hR => by
  obtain ⟨S', ρ', F', H', h1, h2⟩ := h S ρ a w hR
  exact hk F' H' h1 S' ρ' a w h2
theorem aw_ghost {i b k n cap : Nat} {c : Code} (hx : F.lookup i = some (.o b k n cap)) (h : ∀ A : Option Addr, AW P N E c ((i, .c (.s (.slice A n cap))) :: F) (H ++ [.eqv (.o b k n cap) (.slice A n cap)]) Q) : AW P N E c F H Q :=
  aw_wk (wk_ghost (K := fun F' H' => ∃ A : Option Addr, F' = (i, .c (.s (.slice A n cap))) :: F ∧ H' = H ++ [.eqv (.o b k n cap) (.slice A n cap)]) hx fun ρ => ⟨_, rfl, rfl⟩) fun F' H' ⟨A, h1, h2⟩ => by subst h1; subst h2; exact h A
theorem aw_thaw {i b : Nat} {x : AV} {v : Value} {c : Code} (hx : F.lookup i = some (.c (.s v))) (hb : H[b]? = some (.eqv x v)) (h : AW P N E c ((i, x) :: F) H Q) : AW P N E c F H Q :=
  aw_wk (wk_thaw (K := fun F' H' => F' = (i, x) :: F ∧ H' = H) hx hb ⟨rfl, rfl⟩) fun F' H' ⟨h1, h2⟩ => by subst h1; subst h2; exact h
theorem al_ghost {i b k n cap : Nat} {l : List Oper} (hx : F.lookup i = some (.o b k n cap)) (h : ∀ A : Option Addr, AL P N E ops l ((i, .c (.s (.slice A n cap))) :: F) (H ++ [.eqv (.o b k n cap) (.slice A n cap)]) Q) : AL P N E ops l F H Q :=
  al_wk (wk_ghost (K := fun F' H' => ∃ A : Option Addr, F' = (i, .c (.s (.slice A n cap))) :: F ∧ H' = H ++ [.eqv (.o b k n cap) (.slice A n cap)]) hx fun ρ => ⟨_, rfl, rfl⟩) fun F' H' ⟨A, h1, h2⟩ => by subst h1; subst h2; exact h A
theorem al_thaw {i b : Nat} {x : AV} {v : Value} {l : List Oper} (hx : F.lookup i = some (.c (.s v))) (hb : H[b]? = some (.eqv x v)) (h : AL P N E ops l ((i, x) :: F) H Q) : AL P N E ops l F H Q :=
  al_wk (wk_thaw (K := fun F' H' => F' = (i, x) :: F ∧ H' = H) hx hb ⟨rfl, rfl⟩) fun F' H' ⟨h1, h2⟩ => by subst h1; subst h2; exact h
theorem at_ghost {i b k n cap : Nat} {L : List (Nat × Option (List Nat))} (hx : F.lookup i = some (.o b k n cap)) (h : ∀ A : Option Addr, AT P N E ops L ((i, .c (.s (.slice A n cap))) :: F) (H ++ [.eqv (.o b k n cap) (.slice A n cap)]) Q) : AT P N E ops L F H Q :=
  at_wk (wk_ghost (K := fun F' H' => ∃ A : Option Addr, F' = (i, .c (.s (.slice A n cap))) :: F ∧ H' = H ++ [.eqv (.o b k n cap) (.slice A n cap)]) hx fun ρ => ⟨_, rfl, rfl⟩) fun F' H' ⟨A, h1, h2⟩ => by subst h1; subst h2; exact h A
theorem at_thaw {i b : Nat} {x : AV} {v : Value} {L : List (Nat × Option (List Nat))} (hx : F.lookup i = some (.c (.s v))) (hb : H[b]? = some (.eqv x v)) (h : AT P N E ops L ((i, x) :: F) H Q) : AT P N E ops L F H Q :=
  at_wk (wk_thaw (K := fun F' H' => F' = (i, x) :: F ∧ H' = H) hx hb ⟨rfl, rfl⟩) fun F' H' ⟨h1, h2⟩ => by subst h1; subst h2; exact h
theorem am_ghost {i b k n cap : Nat} {n0 : Nat} {ps : List Plan} (hx : F.lookup i = some (.o b k n cap)) (h : ∀ A : Option Addr, AM P N E ops n0 ps ((i, .c (.s (.slice A n cap))) :: F) (H ++ [.eqv (.o b k n cap) (.slice A n cap)]) Q) : AM P N E ops n0 ps F H Q :=
  am_wk (wk_ghost (K := fun F' H' => ∃ A : Option Addr, F' = (i, .c (.s (.slice A n cap))) :: F ∧ H' = H ++ [.eqv (.o b k n cap) (.slice A n cap)]) hx fun ρ => ⟨_, rfl, rfl⟩) fun F' H' ⟨A, h1, h2⟩ => by subst h1; subst h2; exact h A
theorem am_thaw {i b : Nat} {x : AV} {v : Value} {n0 : Nat} {ps : List Plan} (hx : F.lookup i = some (.c (.s v))) (hb : H[b]? = some (.eqv x v)) (h : AM P N E ops n0 ps ((i, x) :: F) H Q) : AM P N E ops n0 ps F H Q :=
  am_wk (wk_thaw (K := fun F' H' => F' = (i, x) :: F ∧ H' = H) hx hb ⟨rfl, rfl⟩) fun F' H' ⟨h1, h2⟩ => by subst h1; subst h2; exact h
end
theorem aw_cutq {P : Program} {N : Nat} {E : Env} {F : Fm} {H : List OB} {Q : Exit → Fm → List OB → Prop} {c : Code} (J : Fm → List OB → Prop) (h : AW P N E c F H (ASeq (fun F' H' => Wk N E F' H' J) Q)) (hJ : ∀ F H, J F H → Q .normal F H) (hK : ∀ F H, Wk N E F H (fun F H => Q .normal F H) → Q .normal F H) : AW P N E c F H Q :=
  aw_mono h fun e F H hh => by
    cases e
    case normal =>
      refine hK F H (fun S ρ a w hR => ?_)
      obtain ⟨S', ρ', F', H', h1, h2⟩ := hh S ρ a w hR
      exact ⟨S', ρ', F', H', hJ _ _ h1, h2⟩
    all_goals exact hh
theorem ZCG {p : Prop} (h : p := by intro _g; (repeat first | exact K0 | apply K1 rfl | apply K2 rfl rfl | apply K2 rfl (by first | assumption | (rw [Nat.zero_add]; assumption)) | apply K2 rfl (by simp) | apply CvH.eqv rfl | apply K3 | exact L0 | apply L1 | exact V1 rfl | exact V2 rfl | exact V3 rfl rfl | exact V4 | exact V5 rfl | exact V3 rfl (by first | (simp; omega) | simp) | exact V1 (by first | (simp; omega) | simp) | exact V6 rfl rfl (by first | rfl | simp) (by simp) rfl | apply V7 | apply V8 | apply V9); fail_if_success focus skip) : p := h
end Go.Proofs.YtdmeohgojdfmoaaGreat
