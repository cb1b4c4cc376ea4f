/- Walks through strings; sets of spots in the logic. -/
import Derived.Test.YtniolldgidgffaaGreatDoorQbd
import Derived.Test.YtniolldgidgffaaGreatDoorQau
import Derived.Test.YtniolldgidgffaaGreatDoorQav
import Derived.Test.YtniolldgidgffaaGreatDoorQbc
import Derived.Test.YtniolldgidgffaaGreatDoorQap
set_option linter.unusedSimpArgs false
set_option linter.unusedVariables false
/- Sets of spots, as maps: plain. -/
namespace Go.Proofs.YtniolldgidgffaaGreatDoor
open Go Go.RowKit
def encP : Enc Spot := ⟨fun p => .agg #[.int .i64 p.1, .int .i64 p.2], fun p => .a [.c (.s (.int .i64 p.1)), .c (.s (.int .i64 p.2))], fun p ρ H => by simp [AV.den, AV.denL, CV.den], fun p w S ρ H => .a fun x hx => by
 simp only [List.mem_cons, List.not_mem_nil, or_false] at hx
 rcases hx with rfl | rfl
 ·exact .c (.s _)
 ·exact .c (.s _)⟩
def encT : Enc Bool := ⟨fun b => .bool b, fun b => .c (.s (.bool b)), fun b ρ H => rfl, fun b w S ρ H => .c (.s _)⟩
abbrev SE := List (Nat × Spot × Bool)
structure SetOk (es : SE) (ck : Nat) (L : List Spot) : Prop where
 hv : ∀ e ∈ es, e.2.2 = true
 hb : ∀ e ∈ es, e.1 < ck
 nb : (es.map (·.1)).Nodup
 nk : (es.map (·.2.1)).Nodup
 hm : ∀ p, p ∈ es.map (·.2.1) ↔ p ∈ L
theorem SetOk.nil : SetOk [] 0 [] := ⟨fun e h => (by cases h), fun e h => (by cases h), .nil, .nil, fun p => Iff.rfl⟩
theorem SetOk.to {es : SE} {ck : Nat} {L L' : List Spot} (h : SetOk es ck L) (hL : ∀ p, p ∈ L ↔ p ∈ L') : SetOk es ck L' := ⟨h.hv, h.hb, h.nb, h.nk, fun p => (h.hm p).trans (hL p)⟩
theorem mget_no {es : SE} {p : Spot} : mget es p = none ↔ p ∉ es.map (·.2.1) := by
 induction es with
 | nil => simp [mget]
 | cons e es ih =>
  simp only [mget, List.map_cons, List.mem_cons]
  split
  ·rename_i h; simp [h]
  ·rename_i h; rw [ih]; simp [h]
theorem mget_in {es : SE} {p : Spot} (hv : ∀ e ∈ es, e.2.2 = true) : (mget es p).getD false = decide (p ∈ es.map (·.2.1)) := by
 induction es with
 | nil => simp [mget]
 | cons e es ih =>
  simp only [mget, List.map_cons, List.mem_cons]
  split
  ·rename_i h; simp [h, hv e List.mem_cons_self]
  ·rename_i h; rw [ih fun e he => hv e (List.mem_cons_of_mem _ he)]; simp [h]
theorem SetOk.get {es : SE} {ck : Nat} {L : List Spot} (h : SetOk es ck L) (p : Spot) : (mget es p).getD false = decide (p ∈ L) := by
 rw [mget_in h.hv]; simp only [h.hm]
theorem mset_same {ck : Nat} {p : Spot} : ∀ {es : SE}, (∀ e ∈ es, e.2.2 = true) → p ∈ es.map (·.2.1) → mset ck p true es = es
 | [], _, h => by simp at h
 | e :: es, hv, h => by
  unfold mset
  split
  ·rename_i hp
   have := hv e List.mem_cons_self
   obtain ⟨a, b, c⟩ := e
   simp only at hp this ⊢
   rw [hp, this]
  ·rename_i hp
   rw [mset_same (fun e he => hv e (List.mem_cons_of_mem _ he)) (by rw [List.map_cons, List.mem_cons] at h; exact h.resolve_left hp)]
theorem SetOk.set {es : SE} {ck : Nat} {L : List Spot} (h : SetOk es ck L) (p : Spot) : SetOk (mset ck p true es) (mclk ck p es) (L ++ [p]) := by
 by_cases hp : p ∈ es.map (·.2.1)
 ·have hs : (mget es p).isSome = true := by
   cases hg : mget es p with
   | some v => rfl
   | none => exact absurd hp (mget_no.1 hg)
  rw [mset_same h.hv hp, mclk, if_pos hs]
  refine h.to fun q => ?_
  rw [List.mem_append, List.mem_singleton]
  constructor
  ·exact .inl
  ·rintro (hq | rfl)
   ·exact hq
   ·exact (h.hm q).1 hp
 ·have hn := mget_no.2 hp
  rw [mset_none hn, mclk, if_neg (by rw [hn]; simp)]
  refine ⟨fun e he => ?_, fun e he => ?_, ?_, ?_, fun q => ?_⟩
  ·rcases List.mem_append.1 he with he | he
   ·exact h.hv e he
   ·rw [List.mem_singleton] at he; rw [he]
  ·rcases List.mem_append.1 he with he | he
   ·exact Nat.lt_succ_of_lt (h.hb e he)
   ·rw [List.mem_singleton] at he; rw [he]; exact Nat.lt_succ_self _
  ·rw [List.map_append]
   refine List.nodup_append.2 ⟨h.nb, by simp, fun a ha b hb e => ?_⟩
   simp only [List.map_cons, List.map_nil, List.mem_singleton] at hb
   obtain ⟨e', he', rfl⟩ := List.mem_map.1 ha
   have := h.hb e' he'
   omega
  ·rw [List.map_append]
   refine List.nodup_append.2 ⟨h.nk, by simp, fun a ha b hb e => ?_⟩
   simp only [List.map_cons, List.map_nil, List.mem_singleton] at hb
   exact hp (by rw [← hb, ← e]; exact ha)
  ·rw [List.map_append, List.mem_append, List.mem_append, h.hm]; simp
def seenT (es : SE) (seen : List Nat) : List Spot := (es.filter fun e => seen.contains e.1).map (·.2.1)
def unseen (es : SE) (seen : List Nat) : Nat := (es.filter fun e => !seen.contains e.1).length
theorem seenT_mem {es : SE} {seen : List Nat} {p : Spot} : p ∈ seenT es seen ↔ ∃ e ∈ es, e.1 ∈ seen ∧ e.2.1 = p := by
 simp only [seenT, List.mem_map, List.mem_filter, List.contains_iff_mem]
 constructor
 ·rintro ⟨e, ⟨h1, h2⟩, h3⟩; exact ⟨e, h1, h2, h3⟩
 ·rintro ⟨e, h1, h2, h3⟩; exact ⟨e, ⟨h1, h2⟩, h3⟩
theorem nodup_inj {α β : Type} {f : α → β} : ∀ {l : List α}, (l.map f).Nodup → ∀ {a b : α}, a ∈ l → b ∈ l → f a = f b → a = b
 | [], _, _, _, h, _, _ => by cases h
 | x :: l, hd, a, b, ha, hb, e => by
  rw [List.map_cons, List.nodup_cons] at hd
  rcases List.mem_cons.1 ha with rfl | ha' <;> rcases List.mem_cons.1 hb with rfl | hb'
  ·rfl
  ·exact absurd (e ▸ List.mem_map_of_mem hb') hd.1
  ·exact absurd (e ▸ List.mem_map_of_mem ha') hd.1
  ·exact nodup_inj hd.2 ha' hb' e
theorem seenT_snoc {es : SE} {seen : List Nat} {e : Nat × Spot × Bool} (hn : (es.map (·.1)).Nodup) (he : e ∈ es) {p : Spot} : p ∈ seenT es (seen ++ [e.1]) ↔ p ∈ seenT es seen ++ [e.2.1] := by
 rw [seenT_mem, List.mem_append, List.mem_singleton, seenT_mem]
 constructor
 ·rintro ⟨e', h1, h2, rfl⟩
  rw [List.mem_append, List.mem_singleton] at h2
  rcases h2 with h2 | h2
  ·exact .inl ⟨e', h1, h2, rfl⟩
  ·exact .inr (by rw [nodup_inj hn h1 he h2])
 ·rintro (⟨e', h1, h2, rfl⟩ | rfl)
  ·exact ⟨e', h1, List.mem_append_left _ h2, rfl⟩
  ·exact ⟨e, he, by simp, rfl⟩
theorem seenT_end {es : SE} {ck : Nat} {L : List Spot} (h : SetOk es ck L) {seen : List Nat} (hs : ∀ e ∈ es, e.1 ∈ seen) {p : Spot} : p ∈ seenT es seen ↔ p ∈ L := by
 rw [seenT_mem, ← h.hm, List.mem_map]
 constructor
 ·rintro ⟨e, h1, _, h3⟩; exact ⟨e, h1, h3⟩
 ·rintro ⟨e, h1, h3⟩; exact ⟨e, h1, hs e h1, h3⟩
theorem filter_lt {α : Type} {p q : α → Bool} : ∀ {l : List α} {a : α}, (∀ x, q x = true → p x = true) → a ∈ l → p a = true → q a = false → (l.filter q).length < (l.filter p).length
 | [], _, _, h, _, _ => by cases h
 | x :: l, a, hpq, ha, h1, h2 => by
  have hle : (l.filter q).length ≤ (l.filter p).length := by
   clear ha
   induction l with
   | nil => simp
   | cons y l ih =>
    simp only [List.filter_cons]
    cases hq : q y with
    | true => rw [if_pos rfl, if_pos (hpq y hq), List.length_cons, List.length_cons]; omega
    | false => rw [if_neg (by simp)]; split <;> (try rw [List.length_cons]) <;> omega
  simp only [List.filter_cons]
  rcases List.mem_cons.1 ha with rfl | ha
  ·rw [if_pos h1, if_neg (by simp [h2]), List.length_cons]; omega
  ·have := filter_lt hpq ha h1 h2
   cases hq : q x with
   | true => rw [if_pos rfl, if_pos (hpq x hq), List.length_cons, List.length_cons]; omega
   | false => rw [if_neg (by simp)]; split <;> (try rw [List.length_cons]) <;> omega
theorem unseen_lt {es : SE} {seen : List Nat} {e : Nat × Spot × Bool} (he : e ∈ es) (hn : e.1 ∉ seen) : unseen es (seen ++ [e.1]) < unseen es seen :=
 filter_lt (a := e) (fun x hx => by simp at hx ⊢; exact hx.1) he (by simp [hn]) (by simp)
theorem x0_mem {L L' : List Spot} (h : ∀ p, p ∈ L ↔ p ∈ L') : x0 L = x0 L' ∧ x1 L = x1 L' ∧ y0 L = y0 L' ∧ y1 L = y1 L' := by
 have hc : ∀ x, x ∈ cols L ↔ x ∈ cols L' := fun x => by simp only [cols, List.mem_map, h]
 have hr : ∀ x, x ∈ rws L ↔ x ∈ rws L' := fun x => by simp only [rws, List.mem_map, h]
 exact ⟨mnL_mem hc, mxL_mem hc, mnL_mem hr, mxL_mem hr⟩
theorem x0_snocs {L : List Spot} {p : Spot} (h : L ≠ []) : x0 (L ++ [p]) = min (x0 L) p.1 ∧ x1 (L ++ [p]) = max (x1 L) p.1 ∧ y0 (L ++ [p]) = min (y0 L) p.2 ∧ y1 (L ++ [p]) = max (y1 L) p.2 := by
 have hc : cols L ≠ [] := by simpa [cols] using h
 have hr : rws L ≠ [] := by simpa [rws] using h
 have e1 : cols (L ++ [p]) = cols L ++ [p.1] := by simp [cols]
 have e2 : rws (L ++ [p]) = rws L ++ [p.2] := by simp [rws]
 unfold x0 x1 y0 y1
 rw [e1, e2]
 exact ⟨mnL_snoc hc, mxL_snoc hc, mnL_snoc hr, mxL_snoc hr⟩
end Go.Proofs.YtniolldgidgffaaGreatDoor

/- The union of two grids: plain. -/
namespace Go.Proofs.YtniolldgidgffaaGreatDoor
def ixG (x y : Int) (w : Nat) (p : Spot) : Nat := ((p.2 - y) * (w : Int) + p.1 - x).toNat
def putG (x y : Int) (w : Nat) : List Bool → List Spot → List Bool
 | on, [] => on
 | on, p :: L => putG x y w (on.set (ixG x y w p) true) L
theorem putG_app {x y : Int} {w : Nat} : ∀ {L : List Spot} {M : List Spot} {on : List Bool}, putG x y w on (L ++ M) = putG x y w (putG x y w on L) M
 | [], _, _ => rfl
 | p :: L, M, on => by rw [List.cons_append, putG, putG, putG_app]
theorem putG_snoc {x y : Int} {w : Nat} {L : List Spot} {p : Spot} {on : List Bool} : putG x y w on (L ++ [p]) = (putG x y w on L).set (ixG x y w p) true := by rw [putG_app]; rfl
theorem putG_len {x y : Int} {w : Nat} : ∀ {L : List Spot} {on : List Bool}, (putG x y w on L).length = on.length
 | [], _ => rfl
 | p :: L, on => by rw [putG, putG_len, List.length_set]
def inBox (x y : Int) (w h : Nat) (p : Spot) : Prop := (x ≤ p.1 ∧ p.1 < x + w) ∧ (y ≤ p.2 ∧ p.2 < y + h)
theorem ix_box {x y : Int} {w h : Nat} {p : Spot} (hp : inBox x y w h p) : (p.2 - y) * (w : Int) + p.1 - x = ixG x y w p ∧ ixG x y w p < w * h ∧ ixG x y w p = (p.2 - y).toNat * w + (p.1 - x).toNat := by
 obtain ⟨⟨h1, h2⟩, h3, h4⟩ := hp
 obtain ⟨a, ha⟩ : ∃ a : Nat, p.1 = x + a := ⟨(p.1 - x).toNat, by omega⟩
 obtain ⟨b, hb⟩ : ∃ b : Nat, p.2 = y + b := ⟨(p.2 - y).toNat, by omega⟩
 have e : (p.2 - y) * (w : Int) + p.1 - x = ((b * w + a : Nat) : Int) := by
  rw [ha, hb, show y + (b : Int) - y = b by omega]
  push_cast
  omega
 have hlt : b * w + a < w * h := by
  have h5 : (b + 1) * w ≤ h * w := Nat.mul_le_mul_right _ (by omega)
  rw [Nat.succ_mul] at h5
  rw [Nat.mul_comm w h]
  omega
 unfold ixG
 rw [e, Int.toNat_natCast]
 exact ⟨rfl, hlt, by rw [hb, ha, show y + (b : Int) - y = b by omega, show x + (a : Int) - x = a by omega]; rfl⟩
theorem spt_ixG {g : Grd} {p : Spot} (hp : inBox g.x g.y g.w g.h p) : spt g (ixG g.x g.y g.w p) = p := by
 rw [(ix_box hp).2.2]
 obtain ⟨⟨h1, h2⟩, h3, h4⟩ := hp
 rw [spt_at (by omega)]
 ext <;> simp only <;> omega
theorem set_cov {g : Grd} {i : Nat} (hi : i < g.on.length) {q : Spot} : q ∈ covG { g with on := g.on.set i true } ↔ q ∈ covG g ∨ q = spt g i := by
 rw [covG_mem, covG_mem]
 simp only
 constructor
 ·rintro ⟨j, h1, rfl⟩
  by_cases e : i = j
  ·subst e; exact .inr rfl
  ·rw [List.getElem?_set_ne e] at h1; exact .inl ⟨j, h1, rfl⟩
 ·rintro (⟨j, h1, rfl⟩ | rfl)
  ·by_cases e : i = j
   ·subst e; exact ⟨i, by rw [List.getElem?_set_self hi], rfl⟩
   ·exact ⟨j, by rw [List.getElem?_set_ne e]; exact h1, rfl⟩
  ·exact ⟨i, by rw [List.getElem?_set_self hi], rfl⟩
theorem put_cov : ∀ {L : List Spot} {g : Grd}, g.on.length = g.w * g.h → (∀ p ∈ L, inBox g.x g.y g.w g.h p) → ∀ {q : Spot}, q ∈ covG { g with on := putG g.x g.y g.w g.on L } ↔ q ∈ covG g ∨ q ∈ L
 | [], g, _, _, q => by simp [putG]
 | p :: L, g, hl, hL, q => by
  have hp := hL p List.mem_cons_self
  have hi : ixG g.x g.y g.w p < g.on.length := by rw [hl]; exact (ix_box hp).2.1
  have ih := put_cov (L := L) (g := { g with on := g.on.set (ixG g.x g.y g.w p) true }) (by simpa using hl) (fun r hr => hL r (List.mem_cons_of_mem _ hr)) (q := q)
  simp only at ih
  rw [putG, ih, set_cov hi, spt_ixG hp, List.mem_cons]
  constructor
  ·rintro ((h | h) | h)
   ·exact .inl h
   ·exact .inr (.inl h)
   ·exact .inr (.inr h)
  ·rintro (h | h | h)
   ·exact .inl (.inl h)
   ·exact .inl (.inr h)
   ·exact .inr h
theorem cov_none {st x y : Int} {w h n : Nat} {q : Spot} : ¬ q ∈ covG ⟨st, x, y, w, h, List.replicate n false⟩ := fun hq => by
 obtain ⟨i, h1, _⟩ := covG_mem.1 hq
 simp only at h1
 rw [List.getElem?_replicate] at h1
 split at h1 <;> simp at h1
def unG (st x y : Int) (w h : Nat) (A B : List Spot) : Grd := ⟨st, x, y, w, h, putG x y w (putG x y w (List.replicate (w * h) false) A) B⟩
theorem unG_cov {st x y : Int} {w h : Nat} {A B : List Spot} (hA : ∀ p ∈ A, inBox x y w h p) (hB : ∀ p ∈ B, inBox x y w h p) {q : Spot} : q ∈ covG (unG st x y w h A B) ↔ q ∈ A ++ B := by
 have h1 := put_cov (L := B) (g := ⟨st, x, y, w, h, putG x y w (List.replicate (w * h) false) A⟩) (by simp [putG_len]) hB (q := q)
 have h2 := put_cov (L := A) (g := ⟨st, x, y, w, h, List.replicate (w * h) false⟩) (by simp) hA (q := q)
 simp only at h1 h2
 unfold unG
 rw [h1, h2, List.mem_append]
 constructor
 ·rintro ((h | h) | h)
  ·exact absurd h cov_none
  ·exact .inl h
  ·exact .inr h
 ·rintro (h | h)
  ·exact .inl (.inr h)
  ·exact .inr h
theorem unG_len {st x y : Int} {w h : Nat} {A B : List Spot} : (unG st x y w h A B).on.length = w * h := by simp [unG, putG_len]
theorem grd_tight {c : Cel} (h : RCel c) (hw : (grdOf c).w ≠ 0) : covG (grdOf c) ≠ [] ∧ x0 (covG (grdOf c)) = (grdOf c).x ∧ x1 (covG (grdOf c)) = (grdOf c).x + ((grdOf c).w : Int) - 1 ∧ y0 (covG (grdOf c)) = (grdOf c).y ∧ y1 (covG (grdOf c)) = (grdOf c).y + ((grdOf c).h : Int) - 1 := by
 have hne : c.rows ≠ [] := fun e => hw (by rw [grdOf, if_pos e])
 have hs := span_tight (fun r hr => (h.row r hr).1) hne
 rw [h.tight hne] at hs
 unfold spanB at hs
 simp only [Bool.and_eq_true, decide_eq_true_iff] at hs
 obtain ⟨⟨⟨⟨s1, s2⟩, s3⟩, s4⟩, s5⟩ := hs
 obtain ⟨m1, m2, m3, m4⟩ := x0_mem (L := covG (grdOf c)) (L' := covL c) fun p => grdOf_cov h
 have hg : (grdOf c).x = c.x.tdiv c.st ∧ (grdOf c).y = c.y.tdiv c.st ∧ (grdOf c).w = wid c.rows ∧ (grdOf c).h = c.rows.length := by
  unfold grdOf; rw [if_neg hne]; exact ⟨rfl, rfl, rfl, rfl⟩
 obtain ⟨g1, g2, g3, g4⟩ := hg
 refine ⟨fun e => s1 (List.eq_nil_iff_forall_not_mem.2 fun p hp => ?_), by rw [m1, s2, g1], by rw [m2, s4, g1, g3], by rw [m3, s3, g2], by rw [m4, s5, g2, g4]⟩
 rw [← grdOf_cov h, e] at hp
 cases hp
theorem grd_nil {c : Cel} (h : RCel c) (hw : (grdOf c).w = 0) : covG (grdOf c) = [] := List.eq_nil_iff_forall_not_mem.2 fun p hp => by
 obtain ⟨i, h1, _⟩ := covG_mem.1 hp
 have := (List.getElem?_eq_some_iff.1 h1).1
 rw [grdOf_len h, hw] at this
 simp at this
theorem x0_app {A B : List Spot} (hA : A ≠ []) (hB : B ≠ []) : x0 (A ++ B) = min (x0 A) (x0 B) ∧ x1 (A ++ B) = max (x1 A) (x1 B) ∧ y0 (A ++ B) = min (y0 A) (y0 B) ∧ y1 (A ++ B) = max (y1 A) (y1 B) := by
 have mn : ∀ {l m : List Int}, l ≠ [] → m ≠ [] → mnL (l ++ m) = min (mnL l) (mnL m) := fun {l m} h1 h2 => by
  obtain ⟨a1, a2⟩ := mnL_spec h1
  obtain ⟨b1, b2⟩ := mnL_spec h2
  obtain ⟨c1, c2⟩ := mnL_spec (l := l ++ m) (by simp [h1])
  have d1 := c2 _ (List.mem_append_left _ a1)
  have d2 := c2 _ (List.mem_append_right _ b1)
  rcases List.mem_append.1 c1 with h | h
  ·have := a2 _ h; omega
  ·have := b2 _ h; omega
 have mx : ∀ {l m : List Int}, l ≠ [] → m ≠ [] → mxL (l ++ m) = max (mxL l) (mxL m) := fun {l m} h1 h2 => by
  obtain ⟨a1, a2⟩ := mxL_spec h1
  obtain ⟨b1, b2⟩ := mxL_spec h2
  obtain ⟨c1, c2⟩ := mxL_spec (l := l ++ m) (by simp [h1])
  have d1 := c2 _ (List.mem_append_left _ a1)
  have d2 := c2 _ (List.mem_append_right _ b1)
  rcases List.mem_append.1 c1 with h | h
  ·have := a2 _ h; omega
  ·have := b2 _ h; omega
 have cA : cols A ≠ [] := by simpa [cols] using hA
 have cB : cols B ≠ [] := by simpa [cols] using hB
 have rA : rws A ≠ [] := by simpa [rws] using hA
 have rB : rws B ≠ [] := by simpa [rws] using hB
 have e1 : cols (A ++ B) = cols A ++ cols B := by simp [cols]
 have e2 : rws (A ++ B) = rws A ++ rws B := by simp [rws]
 unfold x0 x1 y0 y1
 rw [e1, e2]
 exact ⟨mn cA cB, mx cA cB, mn rA rB, mx rA rB⟩
end Go.Proofs.YtniolldgidgffaaGreatDoor

/- Grids of layers; what is wrong with layers, by value. -/
-- NEWM
namespace Go.Proofs.YtniolldgidgffaaGreatDoor
open Go Go.RowKit
set_option maxRecDepth 100000
end Go.Proofs.YtniolldgidgffaaGreatDoor

/- What is wrong with layers and styles, by value. -/
-- NEWM
namespace Go.Proofs.YtniolldgidgffaaGreatDoor
open Go Go.RowKit
set_option maxRecDepth 100000
end Go.Proofs.YtniolldgidgffaaGreatDoor

/- Solid cells, by value: the closure. -/
-- NEWM
namespace Go.Proofs.YtniolldgidgffaaGreatDoor
open Go Go.RowKit
set_option maxRecDepth 100000
end Go.Proofs.YtniolldgidgffaaGreatDoor

/- Solid cells, by value. -/
-- NEWM
namespace Go.Proofs.YtniolldgidgffaaGreatDoor
open Go Go.RowKit
set_option maxRecDepth 100000
end Go.Proofs.YtniolldgidgffaaGreatDoor

/- Solid, by value. -/
-- NEWM
namespace Go.Proofs.YtniolldgidgffaaGreatDoor
open Go Go.RowKit
set_option maxRecDepth 100000
end Go.Proofs.YtniolldgidgffaaGreatDoor

/- Walks through strings; sets of spots in the logic. -/
namespace Go.Proofs.YtniolldgidgffaaGreatDoor
open Go Go.RowKit
section
variable {P : Program} {N : Nat} {E : Env} {F : Fm} {H : List OB} {o : Oper} {S : Nat → Prop} {ρ : List (Option Nat)} {a : Act} {w : World} {t : TypeId} {x y : Operand}
theorem ef_ranges {d : Nat} {l : List UInt8} (ho : o.op = .range t x) (hd : o.dst = some d) (hN : d < N) (ht : P.underlying t = some .string) (hx : ev F x = some (.c (T l))) :
    Ef P N E o F H fun F' H' => F' = (d, .p H.length 0 0) :: F ∧ H' = H ++ [.sit (bst l) 0] :=
 ef_of hd hN ⟨rfl, rfl⟩ fun S ρ a w hR => by
  have h1 := (hR.ev hx).1
  simp only [AV.den, CV.den] at h1
  refine ⟨S, ρ ++ [some w.heap.size], w.alloc (.stringIter (bst l) 0), ?_, ?_, wf_snoc_p hR.hp _⟩
  ·rw [den_snoc_p hR.hp]
   simp only [execOp, ho, h1, Instr.range, Sem.run_bind, st_under ht, Result.andThen_ok, Sem.run_pure, run_newObj, World.alloc_eq]
  ·exact hR.newO _ (.sit (bst l) 0) ⟨_, rfl, by rw [heap_new]⟩
theorem decode_bst {l : List UInt8} {k : Nat} {b : UInt8} (hb : l[k]? = some b) (h : b < 128) : Utf8.decode (bst l) k = (b.toNat, 1) := by
 have hk := (List.getElem?_eq_some_iff.1 hb).1
 have h0 : ((bst l).get! (k + 0)).toNat = b.toNat := by
  congr 1
  show (l.toArray)[k + 0]! = b
  simp [getElem!_def, hb]
 unfold Utf8.decode
 simp only [h0]
 have : b.toNat < 128 := h
 rw [if_pos this]
theorem ef_nexts {bi d k : Nat} {l : List UInt8} {b : UInt8} (ho : o.op = .next x true) (hd : o.dst = some d) (hN : d < N) (hx : ev F x = some (.p bi 0 0)) (hi : H[bi]? = some (.sit (bst l) k)) (hb : l[k]? = some b) (h8 : b < 128) :
    Ef P N E o F H fun F' H' => F' = (d, .t [.c (.s (.bool true)), .c (.s (.int .i64 k)), .c (.s (.int .i32 b.toNat))]) :: F ∧ H' = H.set bi (.sit (bst l) (k + 1)) := fun S ρ a w hR => by
 obtain ⟨h1, _⟩ := hR.ev hx
 obtain ⟨Bi, i1, i2⟩ := hR.hp.blk bi _ hi
 have hz : szAt H bi = 0 := by unfold szAt; rw [hi]; rfl
 simp only [AV.den, i1, hz, Option.map_some, Nat.mul_zero, Nat.add_zero, Nat.zero_add] at h1
 have hk := (List.getElem?_eq_some_iff.1 hb).1
 have hg : (getObj Bi).run P w = .ok (.stringIter (bst l) k) w := by unfold getObj; simp [Sem.run, i2]
 have hs : (setObj Bi (.stringIter (bst l) (k + 1))).run P w = .ok () (putBlk w Bi (.stringIter (bst l) (k + 1))) := by unfold setObj; simp [Sem.run, i2, putBlk]
 unfold effO
 have hex : (execOp a.eval o).run P w = .ok (.value (.tuple #[.bool true, .int .i64 k, .int .i32 b.toNat])) (putBlk w Bi (.stringIter (bst l) (k + 1))) := by
  simp only [execOp, ho, h1, Instr.next, Sem.run_bind, hg, Result.andThen_ok]
  rw [if_pos (by rw [bst_size]; exact hk), decode_bst hb h8]
  simp only [Sem.run_bind, hs, Result.andThen_ok, Sem.run_pure]
  rfl
 rw [hex]
 refine ⟨S, ρ, _, _, ⟨rfl, rfl⟩, ?_⟩
 rw [hd]
 have hset := R.set (ob := .sit (bst l) k) (ob' := .sit (bst l) (k + 1)) (cob := .stringIter (bst l) (k + 1)) hR hi i1 rfl rfl (fun h => absurd rfl h) (putBlk_size _ _) ⟨Bi, rfl, putBlk_at i2⟩
 have := hset.put (d := d) (x := .t [.c (.s (.bool true)), .c (.s (.int .i64 k)), .c (.s (.int .i32 b.toNat))]) hN (.t fun y hy => by
  simp only [List.mem_cons, List.not_mem_nil, or_false] at hy
  rcases hy with rfl | rfl | rfl <;> exact .c (.s _))
 simpa [AV.den, AV.denL, CV.den] using this
theorem ef_nexte {bi d k : Nat} {l : List UInt8} (ho : o.op = .next x true) (hd : o.dst = some d) (hN : d < N) (hx : ev F x = some (.p bi 0 0)) (hi : H[bi]? = some (.sit (bst l) k)) (hk : l.length ≤ k) :
    Ef P N E o F H fun F' H' => F' = (d, .t [.c (.s (.bool false))]) :: F ∧ H' = H := fun S ρ a w hR => by
 obtain ⟨h1, _⟩ := hR.ev hx
 obtain ⟨Bi, i1, i2⟩ := hR.hp.blk bi _ hi
 have hz : szAt H bi = 0 := by unfold szAt; rw [hi]; rfl
 simp only [AV.den, i1, hz, Option.map_some, Nat.mul_zero, Nat.add_zero, Nat.zero_add] at h1
 have hg : (getObj Bi).run P w = .ok (.stringIter (bst l) k) w := by unfold getObj; simp [Sem.run, i2]
 unfold effO
 have hex : (execOp a.eval o).run P w = .ok (.value (.tuple #[.bool false])) w := by
  simp only [execOp, ho, h1, Instr.next, Sem.run_bind, hg, Result.andThen_ok]
  rw [if_neg (by rw [bst_size]; omega)]
  rfl
 rw [hex]
 refine ⟨S, ρ, _, _, ⟨rfl, rfl⟩, ?_⟩
 rw [hd]
 exact hR.put (x := .t [.c (.s (.bool false))]) hN (.t fun y hy => by rw [List.mem_singleton.1 hy]; exact .c (.s _))
theorem ef_nextP {bi b ck d : Nat} {seen : List Nat} {l : SE} {L : List Spot} (hok : SetOk l ck L) (ho : o.op = .next x false) (hd : o.dst = some d) (hN : d < N) (hx : ev F x = some (.p bi 0 0)) (hi : H[bi]? = some (.itr b ck seen ck)) (hH : H[b]? = some (mpO encP encT l ck)) :
    Ef P N E o F H fun F' H' => (∃ eb ex ey, (eb, (ex, ey), true) ∈ l ∧ eb ∉ seen ∧ F' = (d, .t [.c (.s (.bool true)), .a [.c (.s (.int .i64 ex)), .c (.s (.int .i64 ey))], .c (.s (.bool true))]) :: F ∧ H' = H.set bi (.itr b ck (seen ++ [eb]) ck)) ∨ ((∀ e ∈ l, e.1 ∈ seen) ∧ F' = (d, .t [.c (.s (.bool false))]) :: F ∧ H' = H) := fun S ρ a w hR => by
 refine effO_mono (fun a' w' hh => ?_) (ef_next (ke := encP) (ve := encT) ho hd hN hx hi hH hok.hb (Nat.le_refl _) S ρ a w hR)
 obtain ⟨S', ρ', F', H', hk, hR'⟩ := hh
 refine ⟨S', ρ', F', H', ?_, hR'⟩
 rcases hk with ⟨⟨eb, ⟨ex, ey⟩, v⟩, h1, h2, h3, h4⟩ | h
 ·obtain rfl : v = true := hok.hv _ h1
  exact .inl ⟨eb, ex, ey, h1, h2, h3, h4⟩
 ·exact .inr h
theorem rd_entryP {bi b ck eb : Nat} {ex ey : Int} {seen : List Nat} {l : SE} {L : List Spot} (hok : SetOk l ck L) (ho : o.op = .entry x) (hx : ev F x = some (.p bi 0 0)) (hi : H[bi]? = some (.itr b ck (seen ++ [eb]) ck)) (hH : H[b]? = some (mpO encP encT l ck)) (he : (eb, (ex, ey), true) ∈ l) :
    Rd P N E o F H (.t [.a [.c (.s (.int .i64 ex)), .c (.s (.int .i64 ey))], .c (.s (.bool true))]) :=
 rd_entry (ke := encP) (ve := encT) (e := (eb, (ex, ey), true)) ho hx hi hH he hok.nb
theorem rd_lookP {t kt et : TypeId} {ix : Operand} {b ck : Nat} {l : SE} {L : List Spot} {p q : Int} (hok : SetOk l ck L) (hk : KeyOk P kt encP) (ho : o.op = .lookup t x ix false) (ht : P.underlying t = some (.map kt et)) (hz : (P.info? et).bind (·.zero) = some (.bool false))
    (hx : ev F x = some (.mp b)) (hH : H[b]? = some (mpO encP encT l ck)) (hi : ev F ix = some (.a [.c (.s (.int .i64 p)), .c (.s (.int .i64 q))])) : Rd P N E o F H (.c (.s (.bool (decide ((p, q) ∈ L))))) := by
 have := rd_lookup (N := N) (E := E) (ke := encP) (ve := encT) (k := (p, q)) (z := false) hk ho ht hz hx hH hi (fun ρ H => by simp [AV.den, AV.denL, CV.den, encP])
 rw [hok.get] at this
 exact this
end
end Go.Proofs.YtniolldgidgffaaGreatDoor
