/- The union of cells, by value: Union. -/
import Derived.Test.YtfilfijammemfaaGreatDoorQax
import Derived.Test.YtfilfijammemfaaGreatDoorQar
set_option linter.unusedSimpArgs false
set_option linter.unusedVariables false
namespace Go.Proofs.YtfilfijammemfaaGreatDoor
open Go Go.RowKit
def encP : Enc Spot := ⟨fun p => .agg #[.int .i64 p.1, .int .i64 p.2], fun p => .a [.c (.s (.int .i64 p.1)), .c (.s (.int .i64 p.2))], fun p ρ H => by simp [AV.den, AV.denL, CV.den], fun p w S ρ H => .a fun x hx => by
 simp only [List.mem_cons, List.not_mem_nil, or_false] at hx
 rcases hx with rfl | rfl
 ·exact .c (.s _)
 ·exact .c (.s _)⟩
def encT : Enc Bool := ⟨fun b => .bool b, fun b => .c (.s (.bool b)), fun b ρ H => rfl, fun b w S ρ H => .c (.s _)⟩
abbrev SE := List (Nat × Spot × Bool)
structure SetOk (es : SE) (ck : Nat) (L : List Spot) : Prop where
 hv : ∀ e ∈ es, e.2.2 = true
 hb : ∀ e ∈ es, e.1 < ck
 nb : (es.map (·.1)).Nodup
 nk : (es.map (·.2.1)).Nodup
 hm : ∀ p, p ∈ es.map (·.2.1) ↔ p ∈ L
theorem SetOk.nil : SetOk [] 0 [] := ⟨fun e h => (by cases h), fun e h => (by cases h), .nil, .nil, fun p => Iff.rfl⟩
theorem SetOk.to {es : SE} {ck : Nat} {L L' : List Spot} (h : SetOk es ck L) (hL : ∀ p, p ∈ L ↔ p ∈ L') : SetOk es ck L' := ⟨h.hv, h.hb, h.nb, h.nk, fun p => (h.hm p).trans (hL p)⟩
theorem mget_no {es : SE} {p : Spot} : mget es p = none ↔ p ∉ es.map (·.2.1) := by
 induction es with
 | nil => simp [mget]
 | cons e es ih =>
  simp only [mget, List.map_cons, List.mem_cons]
  split
  ·rename_i h; simp [h]
  ·rename_i h; rw [ih]; simp [h]
theorem mget_in {es : SE} {p : Spot} (hv : ∀ e ∈ es, e.2.2 = true) : (mget es p).getD false = decide (p ∈ es.map (·.2.1)) := by
 induction es with
 | nil => simp [mget]
 | cons e es ih =>
  simp only [mget, List.map_cons, List.mem_cons]
  split
  ·rename_i h; simp [h, hv e List.mem_cons_self]
  ·rename_i h; rw [ih fun e he => hv e (List.mem_cons_of_mem _ he)]; simp [h]
theorem SetOk.get {es : SE} {ck : Nat} {L : List Spot} (h : SetOk es ck L) (p : Spot) : (mget es p).getD false = decide (p ∈ L) := by
 rw [mget_in h.hv]; simp only [h.hm]
theorem mset_same {ck : Nat} {p : Spot} : ∀ {es : SE}, (∀ e ∈ es, e.2.2 = true) → p ∈ es.map (·.2.1) → mset ck p true es = es
 | [], _, h => by simp at h
 | e :: es, hv, h => by
  unfold mset
  split
  ·rename_i hp
   have := hv e List.mem_cons_self
   obtain ⟨a, b, c⟩ := e
   simp only at hp this ⊢
   rw [hp, this]
  ·rename_i hp
   rw [mset_same (fun e he => hv e (List.mem_cons_of_mem _ he)) (by rw [List.map_cons, List.mem_cons] at h; exact h.resolve_left hp)]
theorem SetOk.set {es : SE} {ck : Nat} {L : List Spot} (h : SetOk es ck L) (p : Spot) : SetOk (mset ck p true es) (mclk ck p es) (L ++ [p]) := by
 by_cases hp : p ∈ es.map (·.2.1)
 ·have hs : (mget es p).isSome = true := by
   cases hg : mget es p with
   | some v => rfl
   | none => exact absurd hp (mget_no.1 hg)
  rw [mset_same h.hv hp, mclk, if_pos hs]
  refine h.to fun q => ?_
  rw [List.mem_append, List.mem_singleton]
  constructor
  ·exact .inl
  ·rintro (hq | rfl)
   ·exact hq
   ·exact (h.hm q).1 hp
 ·have hn := mget_no.2 hp
  rw [mset_none hn, mclk, if_neg (by rw [hn]; simp)]
  refine ⟨fun e he => ?_, fun e he => ?_, ?_, ?_, fun q => ?_⟩
  ·rcases List.mem_append.1 he with he | he
   ·exact h.hv e he
   ·rw [List.mem_singleton] at he; rw [he]
  ·rcases List.mem_append.1 he with he | he
   ·exact Nat.lt_succ_of_lt (h.hb e he)
   ·rw [List.mem_singleton] at he; rw [he]; exact Nat.lt_succ_self _
  ·rw [List.map_append]
   refine List.nodup_append.2 ⟨h.nb, by simp, fun a ha b hb e => ?_⟩
   simp only [List.map_cons, List.map_nil, List.mem_singleton] at hb
   obtain ⟨e', he', rfl⟩ := List.mem_map.1 ha
   have := h.hb e' he'
   omega
  ·rw [List.map_append]
   refine List.nodup_append.2 ⟨h.nk, by simp, fun a ha b hb e => ?_⟩
   simp only [List.map_cons, List.map_nil, List.mem_singleton] at hb
   exact hp (by rw [← hb, ← e]; exact ha)
  ·rw [List.map_append, List.mem_append, List.mem_append, h.hm]; simp
def seenT (es : SE) (seen : List Nat) : List Spot := (es.filter fun e => seen.contains e.1).map (·.2.1)
def unseen (es : SE) (seen : List Nat) : Nat := (es.filter fun e => !seen.contains e.1).length
theorem seenT_mem {es : SE} {seen : List Nat} {p : Spot} : p ∈ seenT es seen ↔ ∃ e ∈ es, e.1 ∈ seen ∧ e.2.1 = p := by
 simp only [seenT, List.mem_map, List.mem_filter, List.contains_iff_mem]
 constructor
 ·rintro ⟨e, ⟨h1, h2⟩, h3⟩; exact ⟨e, h1, h2, h3⟩
 ·rintro ⟨e, h1, h2, h3⟩; exact ⟨e, ⟨h1, h2⟩, h3⟩
theorem nodup_inj {α β : Type} {f : α → β} : ∀ {l : List α}, (l.map f).Nodup → ∀ {a b : α}, a ∈ l → b ∈ l → f a = f b → a = b
 | [], _, _, _, h, _, _ => by cases h
 | x :: l, hd, a, b, ha, hb, e => by
  rw [List.map_cons, List.nodup_cons] at hd
  rcases List.mem_cons.1 ha with rfl | ha' <;> rcases List.mem_cons.1 hb with rfl | hb'
  ·rfl
  ·exact absurd (e ▸ List.mem_map_of_mem hb') hd.1
  ·exact absurd (e ▸ List.mem_map_of_mem ha') hd.1
  ·exact nodup_inj hd.2 ha' hb' e
theorem seenT_snoc {es : SE} {seen : List Nat} {e : Nat × Spot × Bool} (hn : (es.map (·.1)).Nodup) (he : e ∈ es) {p : Spot} : p ∈ seenT es (seen ++ [e.1]) ↔ p ∈ seenT es seen ++ [e.2.1] := by
 rw [seenT_mem, List.mem_append, List.mem_singleton, seenT_mem]
 constructor
 ·rintro ⟨e', h1, h2, rfl⟩
  rw [List.mem_append, List.mem_singleton] at h2
  rcases h2 with h2 | h2
  ·exact .inl ⟨e', h1, h2, rfl⟩
  ·exact .inr (by rw [nodup_inj hn h1 he h2])
 ·rintro (⟨e', h1, h2, rfl⟩ | rfl)
  ·exact ⟨e', h1, List.mem_append_left _ h2, rfl⟩
  ·exact ⟨e, he, by simp, rfl⟩
theorem seenT_end {es : SE} {ck : Nat} {L : List Spot} (h : SetOk es ck L) {seen : List Nat} (hs : ∀ e ∈ es, e.1 ∈ seen) {p : Spot} : p ∈ seenT es seen ↔ p ∈ L := by
 rw [seenT_mem, ← h.hm, List.mem_map]
 constructor
 ·rintro ⟨e, h1, _, h3⟩; exact ⟨e, h1, h3⟩
 ·rintro ⟨e, h1, h3⟩; exact ⟨e, h1, hs e h1, h3⟩
theorem filter_lt {α : Type} {p q : α → Bool} : ∀ {l : List α} {a : α}, (∀ x, q x = true → p x = true) → a ∈ l → p a = true → q a = false → (l.filter q).length < (l.filter p).length
 | [], _, _, h, _, _ => by cases h
 | x :: l, a, hpq, ha, h1, h2 => by
  have hle : (l.filter q).length ≤ (l.filter p).length := by
   clear ha
   induction l with
   | nil => simp
   | cons y l ih =>
    simp only [List.filter_cons]
    cases hq : q y with
    | true => rw [if_pos rfl, if_pos (hpq y hq), List.length_cons, List.length_cons]; omega
    | false => rw [if_neg (by simp)]; split <;> (try rw [List.length_cons]) <;> omega
  simp only [List.filter_cons]
  rcases List.mem_cons.1 ha with rfl | ha
  ·rw [if_pos h1, if_neg (by simp [h2]), List.length_cons]; omega
  ·have := filter_lt hpq ha h1 h2
   cases hq : q x with
   | true => rw [if_pos rfl, if_pos (hpq x hq), List.length_cons, List.length_cons]; omega
   | false => rw [if_neg (by simp)]; split <;> (try rw [List.length_cons]) <;> omega
theorem unseen_lt {es : SE} {seen : List Nat} {e : Nat × Spot × Bool} (he : e ∈ es) (hn : e.1 ∉ seen) : unseen es (seen ++ [e.1]) < unseen es seen :=
 filter_lt (a := e) (fun x hx => by simp at hx ⊢; exact hx.1) he (by simp [hn]) (by simp)
theorem x0_mem {L L' : List Spot} (h : ∀ p, p ∈ L ↔ p ∈ L') : x0 L = x0 L' ∧ x1 L = x1 L' ∧ y0 L = y0 L' ∧ y1 L = y1 L' := by
 have hc : ∀ x, x ∈ cols L ↔ x ∈ cols L' := fun x => by simp only [cols, List.mem_map, h]
 have hr : ∀ x, x ∈ rws L ↔ x ∈ rws L' := fun x => by simp only [rws, List.mem_map, h]
 exact ⟨mnL_mem hc, mxL_mem hc, mnL_mem hr, mxL_mem hr⟩
theorem x0_snocs {L : List Spot} {p : Spot} (h : L ≠ []) : x0 (L ++ [p]) = min (x0 L) p.1 ∧ x1 (L ++ [p]) = max (x1 L) p.1 ∧ y0 (L ++ [p]) = min (y0 L) p.2 ∧ y1 (L ++ [p]) = max (y1 L) p.2 := by
 have hc : cols L ≠ [] := by simpa [cols] using h
 have hr : rws L ≠ [] := by simpa [rws] using h
 have e1 : cols (L ++ [p]) = cols L ++ [p.1] := by simp [cols]
 have e2 : rws (L ++ [p]) = rws L ++ [p.2] := by simp [rws]
 unfold x0 x1 y0 y1
 rw [e1, e2]
 exact ⟨mnL_snoc hc, mxL_snoc hc, mnL_snoc hr, mxL_snoc hr⟩
end Go.Proofs.YtfilfijammemfaaGreatDoor
namespace Go.Proofs.YtfilfijammemfaaGreatDoor
def ixG (x y : Int) (w : Nat) (p : Spot) : Nat := ((p.2 - y) * (w : Int) + p.1 - x).toNat
def putG (x y : Int) (w : Nat) : List Bool → List Spot → List Bool
 | on, [] => on
 | on, p :: L => putG x y w (on.set (ixG x y w p) true) L
theorem putG_app {x y : Int} {w : Nat} : ∀ {L : List Spot} {M : List Spot} {on : List Bool}, putG x y w on (L ++ M) = putG x y w (putG x y w on L) M
 | [], _, _ => rfl
 | p :: L, M, on => by rw [List.cons_append, putG, putG, putG_app]
theorem putG_snoc {x y : Int} {w : Nat} {L : List Spot} {p : Spot} {on : List Bool} : putG x y w on (L ++ [p]) = (putG x y w on L).set (ixG x y w p) true := by rw [putG_app]; rfl
theorem putG_len {x y : Int} {w : Nat} : ∀ {L : List Spot} {on : List Bool}, (putG x y w on L).length = on.length
 | [], _ => rfl
 | p :: L, on => by rw [putG, putG_len, List.length_set]
def inBox (x y : Int) (w h : Nat) (p : Spot) : Prop := (x ≤ p.1 ∧ p.1 < x + w) ∧ (y ≤ p.2 ∧ p.2 < y + h)
theorem ix_box {x y : Int} {w h : Nat} {p : Spot} (hp : inBox x y w h p) : (p.2 - y) * (w : Int) + p.1 - x = ixG x y w p ∧ ixG x y w p < w * h ∧ ixG x y w p = (p.2 - y).toNat * w + (p.1 - x).toNat := by
 obtain ⟨⟨h1, h2⟩, h3, h4⟩ := hp
 obtain ⟨a, ha⟩ : ∃ a : Nat, p.1 = x + a := ⟨(p.1 - x).toNat, by omega⟩
 obtain ⟨b, hb⟩ : ∃ b : Nat, p.2 = y + b := ⟨(p.2 - y).toNat, by omega⟩
 have e : (p.2 - y) * (w : Int) + p.1 - x = ((b * w + a : Nat) : Int) := by
  rw [ha, hb, show y + (b : Int) - y = b by omega]
  push_cast
  omega
 have hlt : b * w + a < w * h := by
  have h5 : (b + 1) * w ≤ h * w := Nat.mul_le_mul_right _ (by omega)
  rw [Nat.succ_mul] at h5
  rw [Nat.mul_comm w h]
  omega
 unfold ixG
 rw [e, Int.toNat_natCast]
 exact ⟨rfl, hlt, by rw [hb, ha, show y + (b : Int) - y = b by omega, show x + (a : Int) - x = a by omega]; rfl⟩
theorem spt_ixG {g : Grd} {p : Spot} (hp : inBox g.x g.y g.w g.h p) : spt g (ixG g.x g.y g.w p) = p := by
 rw [(ix_box hp).2.2]
 obtain ⟨⟨h1, h2⟩, h3, h4⟩ := hp
 rw [spt_at (by omega)]
 ext <;> simp only <;> omega
theorem set_cov {g : Grd} {i : Nat} (hi : i < g.on.length) {q : Spot} : q ∈ covG { g with on := g.on.set i true } ↔ q ∈ covG g ∨ q = spt g i := by
 rw [covG_mem, covG_mem]
 simp only
 constructor
 ·rintro ⟨j, h1, rfl⟩
  by_cases e : i = j
  ·subst e; exact .inr rfl
  ·rw [List.getElem?_set_ne e] at h1; exact .inl ⟨j, h1, rfl⟩
 ·rintro (⟨j, h1, rfl⟩ | rfl)
  ·by_cases e : i = j
   ·subst e; exact ⟨i, by rw [List.getElem?_set_self hi], rfl⟩
   ·exact ⟨j, by rw [List.getElem?_set_ne e]; exact h1, rfl⟩
  ·exact ⟨i, by rw [List.getElem?_set_self hi], rfl⟩
theorem put_cov : ∀ {L : List Spot} {g : Grd}, g.on.length = g.w * g.h → (∀ p ∈ L, inBox g.x g.y g.w g.h p) → ∀ {q : Spot}, q ∈ covG { g with on := putG g.x g.y g.w g.on L } ↔ q ∈ covG g ∨ q ∈ L
 | [], g, _, _, q => by simp [putG]
 | p :: L, g, hl, hL, q => by
  have hp := hL p List.mem_cons_self
  have hi : ixG g.x g.y g.w p < g.on.length := by rw [hl]; exact (ix_box hp).2.1
  have ih := put_cov (L := L) (g := { g with on := g.on.set (ixG g.x g.y g.w p) true }) (by simpa using hl) (fun r hr => hL r (List.mem_cons_of_mem _ hr)) (q := q)
  simp only at ih
  rw [putG, ih, set_cov hi, spt_ixG hp, List.mem_cons]
  constructor
  ·rintro ((h | h) | h)
   ·exact .inl h
   ·exact .inr (.inl h)
   ·exact .inr (.inr h)
  ·rintro (h | h | h)
   ·exact .inl (.inl h)
   ·exact .inl (.inr h)
   ·exact .inr h
theorem cov_none {st x y : Int} {w h n : Nat} {q : Spot} : ¬ q ∈ covG ⟨st, x, y, w, h, List.replicate n false⟩ := fun hq => by
 obtain ⟨i, h1, _⟩ := covG_mem.1 hq
 simp only at h1
 rw [List.getElem?_replicate] at h1
 split at h1 <;> simp at h1
def unG (st x y : Int) (w h : Nat) (A B : List Spot) : Grd := ⟨st, x, y, w, h, putG x y w (putG x y w (List.replicate (w * h) false) A) B⟩
theorem unG_cov {st x y : Int} {w h : Nat} {A B : List Spot} (hA : ∀ p ∈ A, inBox x y w h p) (hB : ∀ p ∈ B, inBox x y w h p) {q : Spot} : q ∈ covG (unG st x y w h A B) ↔ q ∈ A ++ B := by
 have h1 := put_cov (L := B) (g := ⟨st, x, y, w, h, putG x y w (List.replicate (w * h) false) A⟩) (by simp [putG_len]) hB (q := q)
 have h2 := put_cov (L := A) (g := ⟨st, x, y, w, h, List.replicate (w * h) false⟩) (by simp) hA (q := q)
 simp only at h1 h2
 unfold unG
 rw [h1, h2, List.mem_append]
 constructor
 ·rintro ((h | h) | h)
  ·exact absurd h cov_none
  ·exact .inl h
  ·exact .inr h
 ·rintro (h | h)
  ·exact .inl (.inr h)
  ·exact .inr h
theorem unG_len {st x y : Int} {w h : Nat} {A B : List Spot} : (unG st x y w h A B).on.length = w * h := by simp [unG, putG_len]
theorem grd_tight {c : Cel} (h : RCel c) (hw : (zc c).w ≠ 0) : covG (zc c) ≠ [] ∧ x0 (covG (zc c)) = (zc c).x ∧ x1 (covG (zc c)) = (zc c).x + ((zc c).w : Int) - 1 ∧ y0 (covG (zc c)) = (zc c).y ∧ y1 (covG (zc c)) = (zc c).y + ((zc c).h : Int) - 1 := by
 have hne : c.rows ≠ [] := fun e => hw (by rw [zc, if_pos e])
 have hs := span_tight (fun r hr => (h.row r hr).1) hne
 rw [h.tight hne] at hs
 unfold spanB at hs
 simp only [Bool.and_eq_true, decide_eq_true_iff] at hs
 obtain ⟨⟨⟨⟨s1, s2⟩, s3⟩, s4⟩, s5⟩ := hs
 obtain ⟨m1, m2, m3, m4⟩ := x0_mem (L := covG (zc c)) (L' := covL c) fun p => zN h
 have hg : (zc c).x = c.x.tdiv c.st ∧ (zc c).y = c.y.tdiv c.st ∧ (zc c).w = wid c.rows ∧ (zc c).h = c.rows.length := by
  unfold zc; rw [if_neg hne]; exact ⟨rfl, rfl, rfl, rfl⟩
 obtain ⟨g1, g2, g3, g4⟩ := hg
 refine ⟨fun e => s1 (List.eq_nil_iff_forall_not_mem.2 fun p hp => ?_), by rw [m1, s2, g1], by rw [m2, s4, g1, g3], by rw [m3, s3, g2], by rw [m4, s5, g2, g4]⟩
 rw [← zN h, e] at hp
 cases hp
theorem grd_nil {c : Cel} (h : RCel c) (hw : (zc c).w = 0) : covG (zc c) = [] := List.eq_nil_iff_forall_not_mem.2 fun p hp => by
 obtain ⟨i, h1, _⟩ := covG_mem.1 hp
 have := (List.getElem?_eq_some_iff.1 h1).1
 rw [grdOf_len h, hw] at this
 simp at this
theorem x0_app {A B : List Spot} (hA : A ≠ []) (hB : B ≠ []) : x0 (A ++ B) = min (x0 A) (x0 B) ∧ x1 (A ++ B) = max (x1 A) (x1 B) ∧ y0 (A ++ B) = min (y0 A) (y0 B) ∧ y1 (A ++ B) = max (y1 A) (y1 B) := by
 have mn : ∀ {l m : List Int}, l ≠ [] → m ≠ [] → mnL (l ++ m) = min (mnL l) (mnL m) := fun {l m} h1 h2 => by
  obtain ⟨a1, a2⟩ := zi1 h1
  obtain ⟨b1, b2⟩ := zi1 h2
  obtain ⟨c1, c2⟩ := zi1 (l := l ++ m) (by simp [h1])
  have d1 := c2 _ (List.mem_append_left _ a1)
  have d2 := c2 _ (List.mem_append_right _ b1)
  rcases List.mem_append.1 c1 with h | h
  ·have := a2 _ h; omega
  ·have := b2 _ h; omega
 have mx : ∀ {l m : List Int}, l ≠ [] → m ≠ [] → mxL (l ++ m) = max (mxL l) (mxL m) := fun {l m} h1 h2 => by
  obtain ⟨a1, a2⟩ := zD1 h1
  obtain ⟨b1, b2⟩ := zD1 h2
  obtain ⟨c1, c2⟩ := zD1 (l := l ++ m) (by simp [h1])
  have d1 := c2 _ (List.mem_append_left _ a1)
  have d2 := c2 _ (List.mem_append_right _ b1)
  rcases List.mem_append.1 c1 with h | h
  ·have := a2 _ h; omega
  ·have := b2 _ h; omega
 have cA : cols A ≠ [] := by simpa [cols] using hA
 have cB : cols B ≠ [] := by simpa [cols] using hB
 have rA : rws A ≠ [] := by simpa [rws] using hA
 have rB : rws B ≠ [] := by simpa [rws] using hB
 have e1 : cols (A ++ B) = cols A ++ cols B := by simp [cols]
 have e2 : rws (A ++ B) = rws A ++ rws B := by simp [rws]
 unfold x0 x1 y0 y1
 rw [e1, e2]
 exact ⟨mn cA cB, mx cA cB, mn rA rB, mx rA rB⟩
end Go.Proofs.YtfilfijammemfaaGreatDoor
-- NEWM
namespace Go.Proofs.YtfilfijammemfaaGreatDoor
open Go Go.RowKit
set_option maxRecDepth 100000
set_option maxHeartbeats 2000000 in
theorem each_set (g : Grd) (pv v : Value) (hg : GOk g) (st x y : Int) (w h : Nat) (on : List Bool) (hon : on.length = w * h) (hw : w ≤ 1000) (hh : h ≤ 1000) (hx : -10000000 ≤ x ∧ x ≤ 10000000) (hy : -10000000 ≤ y ∧ y ≤ 10000000) (hin : ∀ p ∈ covG g, inBox x y w h p) : ACallsX true Tryz.prog 78 [gV pv v g, .f (.via 0 #[] 79 false) [.p 0 0 0]] [gB st x y w h 1 (w * h), gArr (w * h) on] fun u H => u = .t [] ∧ H = [gB st x y w h 1 (w * h), gArr (w * h) (putG x y w on (covG g))] := by
 have hn := hg.n
 have hgx := hg.x
 have hgy := hg.y
 have hnb : w * h ≤ 1000000 := Nat.le_trans (Nat.mul_le_mul hw hh) (by decide)
 have eo : (oR g.on).length = g.on.length := by simp
 refine zK true (N := 42) Tryz.func78 rfl rfl (by simp) fun E hE hP => ?_
 refine WA ?_
 refine zk (fun m F H => ∃ k : Nat, m + k = g.on.length ∧ F = [(0, gV pv v g), (1, .f (.via 0 #[] 79 false) [.p 0 0 0]), (9, .c (.r v (oR g.on))), (10, .c (I (oR g.on).length)), (11, .c (I k))] ∧ H = [gB st x y w h 1 (w * h), gArr (w * h) (putG x y w on (covK g k))]) ?_ ?_
 ·refine zh [some 0, some 1] (fun _ => [(0, gV pv v g), (1, .f (.via 0 #[] 79 false) [.p 0 0 0]), (9, .c (.r v (oR g.on))), (10, .c (I (oR g.on).length)), (11, .c (I (0 : Nat)))]) (fun _ => [gB st x y w h 1 (w * h), gArr (w * h) on]) (by decide) (ZNL hE) ZCF ZCH (fun _ => ?_)
  exact ⟨g.on.length, 0, by omega, rfl, rfl⟩
 rintro m F H ⟨k, hk, rfl, rfl⟩
 refine WA ?_
 refine zl rfl (fun hlt => ?_) (fun hge => ?_)
 ·have hkn : k < g.on.length := by omega
  obtain ⟨b, hb⟩ : ∃ b, g.on[k]? = some b := ⟨_, List.getElem?_eq_getElem hkn⟩
  have hrow : (oR g.on)[k]? = some [B b] := by rw [List.getElem?_map, hb]; rfl
  obtain ⟨w1, ⟨w2, w3⟩, w4, w5⟩ := each_at hg hkn
  have hnx := covK_next hb
  have hol : (putG x y w on (covK g k)).length = w * h := by rw [putG_len, hon]
  have hnext : putG x y w on (covK g (k + 1)) = if b = true then (putG x y w on (covK g k)).set (ixG x y w (spt g k)) true else putG x y w on (covK g k) := by
   rw [hnx]
   cases b with
   | true => rw [if_pos rfl, if_pos rfl, putG_snoc]
   | false => rw [if_neg (by simp), if_neg (by simp), List.append_nil]
  generalize hon1e : putG x y w on (covK g k) = on1 at *
  refine WA ?_
  refine WA ?_
  cases b with
  | true =>
   rw [if_pos rfl] at hnext
   have hsp : spt g k ∈ covG g := covG_mem.2 ⟨k, hb, rfl⟩
   have hbx := hin _ hsp
   rw [← spt_eq] at hnext hbx
   obtain ⟨i1, i2, _⟩ := ix_box hbx
   have hbx2 := hbx
   unfold inBox at hbx2
   simp only at hbx2 i1
   refine zb rfl ?_
   refine ZZ ?_
   refine zg [(0, none), (1, none), (2, none), (3, none), (4, none), (5, none), (6, none), (7, none), (8, none), (9, none), (10, none), (11, none), (12, none), (13, none), (14, none), (15, none), (16, none), (17, none), (18, none), (19, none), (20, none), (21, none), (22, none), (23, some [])] zn (by kernel_rfl) ?_
   refine WP ?_
   refine zY rfl rfl (zb1 [0, 1] (fun _ => [gB st x y w h 1 (w * h), gArr (w * h) on1]) false (fun _ => set_v st x y w h on1 (w * h) (g.x + (k : Int) % (g.w : Int)) (g.y + (k : Int) / (g.w : Int)) _ hol i1 i2 hnb (by omega) (by omega) hx hy) rfl (.bnd rfl) rfl (by decide) (by kernel_rfl) rfl (fun _ => .cons (.p rfl) (.cons (.c rfl) (.cons (.c rfl) .nil))) (by decide) ZCH (by simp)) ?_
   rintro F1 H1 ⟨_, _, _, _, ⟨rfl, rfl⟩, hF, hH⟩
   rw [zI] at hF; (refine NSU hF hH ?_; clear hF hH; rintro rfl rfl)
   refine ⟨zm, ?_⟩
   refine WQ ?_
   refine WA ?_
   refine zh [some 0, some 1] (fun _ => [(0, gV pv v g), (1, .f (.via 0 #[] 79 false) [.p 0 0 0]), (9, .c (.r v (oR g.on))), (10, .c (I (oR g.on).length)), (11, .c (I (k + 1 : Nat)))]) (fun _ => [gB st x y w h 1 (w * h), gArr (w * h) (on1.set (ixG x y w (g.x + (k : Int) % (g.w : Int), g.y + (k : Int) / (g.w : Int))) true)]) (by decide) (ZNL hE) ZCF ZCH (fun _ => ?_)
   exact ⟨m - 1, by omega, k + 1, by omega, rfl, by rw [hnext]⟩
  | false =>
   rw [if_neg (by simp)] at hnext
   refine zd rfl ?_
   refine ZZ ?_
   refine WA ?_
   refine zh [some 0, some 1] (fun _ => [(0, gV pv v g), (1, .f (.via 0 #[] 79 false) [.p 0 0 0]), (9, .c (.r v (oR g.on))), (10, .c (I (oR g.on).length)), (11, .c (I (k + 1 : Nat)))]) (fun _ => [gB st x y w h 1 (w * h), gArr (w * h) on1]) (by decide) (ZNL hE) ZCF ZCH (fun _ => ?_)
   exact ⟨m - 1, by omega, k + 1, by omega, rfl, by rw [hnext]⟩
 obtain rfl : k = g.on.length := by omega
 rw [show covK g g.on.length = covG g from rfl]
 refine ZZ ?_
 exact zF1 [some 0, some 1] (fun _ => [gB st x y w h 1 (w * h), gArr (w * h) (putG x y w on (covG g))]) (.inr rfl) rfl (by decide) (ZNK rfl) ZCH (fun _ => ⟨rfl, rfl⟩)
theorem grd_bd {c : Cel} (h : RCel c) : (zc c).w ≤ 200 ∧ (zc c).h ≤ 200 ∧ ((zc c).w ≠ 0 → 0 < (zc c).h) := by
 have h1 := h.w
 have h2 := h.h
 unfold zc
 split
 ·simp
 ·rename_i e
  refine ⟨h1, h2, fun _ => ?_⟩
  cases hr : c.rows with
  | nil => exact absurd hr e
  | cons => simp
theorem box_in {c : Cel} (h : RCel c) (hw : (zc c).w ≠ 0) {p : Spot} (hp : p ∈ covG (zc c)) : (zc c).x ≤ p.1 ∧ p.1 < (zc c).x + (zc c).w ∧ (zc c).y ≤ p.2 ∧ p.2 < (zc c).y + (zc c).h := by
 obtain ⟨_, e1, e2, e3, e4⟩ := grd_tight h hw
 obtain ⟨b1, b2, b3, b4⟩ := x0_le hp
 omega
theorem un_l {ca cb : Cel} (ha : RCel ca) (hb : RCel cb) (hs : ca.st = cb.st) (hw : (zc ca).w = 0) : normC (zc cb).st (covG (zc cb)) = normC ca.st (covL ca ++ covL cb) := by
 rw [zQ, hs]
 have e := grd_nil ha hw
 refine normC_mem fun q => ?_
 rw [List.mem_append, ← zN ha, ← zN hb, e]
 simp
theorem un_r {ca cb : Cel} (ha : RCel ca) (hb : RCel cb) (hw : (zc cb).w = 0) : normC (zc ca).st (covG (zc ca)) = normC ca.st (covL ca ++ covL cb) := by
 rw [zQ]
 have e := grd_nil hb hw
 refine normC_mem fun q => ?_
 rw [List.mem_append, ← zN ha, ← zN hb, e]
 simp
theorem un_x {ca cb : Cel} (ha : RCel ca) (hb : RCel cb) (h1 : (zc ca).w ≠ 0) (h2 : (zc cb).w ≠ 0) : covL ca ++ covL cb ≠ [] ∧ x0 (covL ca ++ covL cb) = min (zc ca).x (zc cb).x ∧ x1 (covL ca ++ covL cb) = max ((zc ca).x + ((zc ca).w : Int)) ((zc cb).x + ((zc cb).w : Int)) - 1 ∧ y0 (covL ca ++ covL cb) = min (zc ca).y (zc cb).y ∧ y1 (covL ca ++ covL cb) = max ((zc ca).y + ((zc ca).h : Int)) ((zc cb).y + ((zc cb).h : Int)) - 1 := by
 obtain ⟨a0, a1, a2, a3, a4⟩ := grd_tight ha h1
 obtain ⟨b0, b1, b2, b3, b4⟩ := grd_tight hb h2
 have hm : ∀ p, p ∈ covL ca ++ covL cb ↔ p ∈ covG (zc ca) ++ covG (zc cb) := fun p => by rw [List.mem_append, List.mem_append, zN ha, zN hb]
 obtain ⟨c1, c2, c3, c4⟩ := x0_mem hm
 obtain ⟨d1, d2, d3, d4⟩ := x0_app a0 b0
 refine ⟨fun e => ?_, by rw [c1, d1, a1, b1], by rw [c2, d2, a2, b2]; omega, by rw [c3, d3, a3, b3], by rw [c4, d4, a4, b4]; omega⟩
 obtain ⟨p, hp⟩ : ∃ p, p ∈ covG (zc ca) := List.exists_mem_of_ne_nil _ a0
 have := (hm p).2 (List.mem_append_left _ hp)
 rw [e] at this; cases this
theorem un_e {st : Int} {L : List Spot} (h0 : L ≠ []) (h : 199 < x1 L - x0 L ∨ 199 < y1 L - y0 L) : normC st L = (⟨0, 0, 0, []⟩, 12) := by rw [normC, if_neg h0, if_pos h]
theorem un_g {ca cb : Cel} (ha : RCel ca) (hb : RCel cb) {X Y : Int} {W T : Nat} (h1 : ∀ p ∈ covG (zc ca), inBox X Y W T p) (h2 : ∀ p ∈ covG (zc cb), inBox X Y W T p) : normC (unG ca.st X Y W T (covG (zc ca)) (covG (zc cb))).st (covG (unG ca.st X Y W T (covG (zc ca)) (covG (zc cb)))) = normC ca.st (covL ca ++ covL cb) :=
 normC_mem fun q => by rw [unG_cov h1 h2, List.mem_append, List.mem_append, zN ha, zN hb]
set_option maxHeartbeats 2000000 in
theorem union_v (va vb : Value) (ca cb : Cel) (ha : RCel ca) (hb : RCel cb) (hs : ca.st = cb.st) : ACalls Tryz.prog 29 [celA va ca, celA vb cb] [] fun u H => ∃ v', u = .t [celA v' (normC ca.st (covL ca ++ covL cb)).1, .c (I (normC ca.st (covL ca ++ covL cb)).2)] ∧ H = [] := by
 have hst := ha.st
 have hsg : 0 ≤ (zc ca).st ∧ (zc ca).st ≤ 10000 := by rw [zQ]; omega
 have hsk : 0 ≤ (zc cb).st ∧ (zc cb).st ≤ 10000 := by rw [zQ, ← hs]; omega
 have hga := za1 ha
 have hgb := za1 hb
 refine ze (N := 131) Tryz.func29 rfl rfl (by simp) fun E hE => ?_
 refine WA ?_
 refine WR ?_
 refine zf rfl (za false (fun _ => pair_v va vb ca cb ha hb hs) rfl .fn rfl (by decide) (by kernel_rfl) rfl (fun _ => C0 rfl) (by simp)) ?_
 rintro _ _ ⟨_, _, _, ⟨p1, o1, p2, o2, rfl, rfl⟩, hF, hH⟩
 (refine NST hF hH ?_; clear hF hH; rintro rfl rfl)
 refine WE ?_
 refine WA ?_
 refine zd rfl ?_
 refine ZZ ?_
 refine WA ?_
 refine zl rfl (fun hg0 => ?_) (fun hg0 => ?_)
 ·have hnf := un_l ha hb hs (by omega)
  generalize normC ca.st (covL ca ++ covL cb) = R at *
  refine WR ?_
  refine zf rfl (za false (fun _ => cells_v (zc cb) p2 o2 hgb hsk) rfl .fn rfl (by decide) (by kernel_rfl) rfl (fun _ => C0 rfl) (by simp)) ?_
  rintro _ _ ⟨_, _, _, ⟨v2, rfl, rfl⟩, hF, hH⟩
  rw [hnf] at hF
  (refine NST hF hH ?_; clear hF hH; rintro rfl rfl)
  refine WE ?_
  exact zq (us := [celA v2 R.1, .c (I R.2)]) [] (fun _ => .t [celA v2 R.1, .c (I R.2)]) (fun _ => []) (.cella (n := 4) rfl (by kernel_rfl) (Cells.box rfl) (by simp) (by (try simp only [nm, putL, Nat.reduceAdd, cellsOf, cvOf]) <;> rfl) (.tmp rfl .nil)) (by decide) (fun i hi => absurd hi (Nat.not_lt_zero i)) (fun g' => .tL (.cons (.aL (.cons (.c rfl) (.cons (.c rfl) (.cons (.c rfl) (.cons (.c rfl) .nil))))) (.cons (.c rfl) .nil))) (fun _ => .nil) (fun g' => ⟨v2, rfl, rfl⟩)
 refine WA ?_
 refine zl rfl (fun hk0 => ?_) (fun hk0 => ?_)
 ·have hnf := un_r ha hb (by omega)
  generalize normC ca.st (covL ca ++ covL cb) = R at *
  refine WR ?_
  refine zf rfl (za false (fun _ => cells_v (zc ca) p1 o1 hga hsg) rfl .fn rfl (by decide) (by kernel_rfl) rfl (fun _ => C0 rfl) (by simp)) ?_
  rintro _ _ ⟨_, _, _, ⟨v2, rfl, rfl⟩, hF, hH⟩
  rw [hnf] at hF
  (refine NST hF hH ?_; clear hF hH; rintro rfl rfl)
  refine WE ?_
  exact zq (us := [celA v2 R.1, .c (I R.2)]) [] (fun _ => .t [celA v2 R.1, .c (I R.2)]) (fun _ => []) (.cella (n := 4) rfl (by kernel_rfl) (Cells.box rfl) (by simp) (by (try simp only [nm, putL, Nat.reduceAdd, cellsOf, cvOf]) <;> rfl) (.tmp rfl .nil)) (by decide) (fun i hi => absurd hi (Nat.not_lt_zero i)) (fun g' => .tL (.cons (.aL (.cons (.c rfl) (.cons (.c rfl) (.cons (.c rfl) (.cons (.c rfl) .nil))))) (.cons (.c rfl) .nil))) (fun _ => .nil) (fun g' => ⟨v2, rfl, rfl⟩)
 have hbg := fun p => box_in (p := p) ha (by omega)
 have hbk := fun p => box_in (p := p) hb (by omega)
 obtain ⟨u0, u1, u2, u3, u4⟩ := un_x ha hb (by omega) (by omega)
 obtain ⟨e1, e2, e3⟩ := grd_bd ha
 obtain ⟨e4, e5, e6⟩ := grd_bd hb
 have e7 := e3 (by omega)
 have e8 := e6 (by omega)
 have hgx := hga.x
 have hgy := hga.y
 have hkx := hgb.x
 have hky := hgb.y
 clear e3 e6
 refine ZZ ?_
 refine zC1 (zh (K := fun F H => F = [(2, .p 0 0 0), (4, .p 1 0 0), (6, gV p1 o1 (zc ca)), (7, gV p2 o2 (zc cb))] ∧ H = [celB va ca, .box [.c (I 0), .c (I 0), .c (I 0), .c (.r (.slice none 0 0) [])]]) [some 0, some 2] (fun _ => [(2, .p 0 0 0), (4, .p 1 0 0), (6, gV p1 o1 (zc ca)), (7, gV p2 o2 (zc cb))]) (fun _ => [celB va ca, .box [.c (I 0), .c (I 0), .c (I 0), .c (.r (.slice none 0 0) [])]]) (by decide) (ZNL hE) ZCF ZCH (fun _ => ⟨rfl, rfl⟩)) ?_
 rintro F H ⟨rfl, rfl⟩
 refine ZZ ?_
 refine zg [(0, none), (1, none), (2, none), (3, none), (4, none), (5, none), (6, none), (7, none), (8, none), (9, none), (10, none), (11, none), (12, none), (13, none), (14, none), (15, none), (16, none), (17, none), (18, none), (19, none)] zn (by kernel_rfl) ?_
 refine WQ ?_
 refine ZZ ?_
 refine zg [(0, none), (1, none), (2, none), (3, none), (4, none), (5, none), (6, none), (7, none), (8, none), (9, none), (10, none), (11, none), (12, none), (13, none), (14, none), (15, none), (16, none), (17, none), (18, none), (19, none), (20, none), (21, none), (22, none), (23, none), (24, none), (25, none), (26, none), (27, none), (28, none), (29, none), (30, none), (31, none), (32, none), (33, none), (34, none), (35, none), (36, none), (37, none), (38, none), (39, none), (40, none), (41, none), (42, none), (43, none)] zn (by kernel_rfl) ?_
 refine WQ ?_
 refine zC1 (zh (K := fun F H => F = [(2, .p 0 0 0), (4, .p 1 0 0), (6, gV p1 o1 (zc ca)), (7, gV p2 o2 (zc cb)), (9, .c (I (min (zc ca).x (zc cb).x))), (10, .c (I (min (zc ca).y (zc cb).y))), (11, .c (I (max ((zc ca).x + ((zc ca).w : Int)) ((zc cb).x + ((zc cb).w : Int)) - min (zc ca).x (zc cb).x))), (12, .c (I (max ((zc ca).y + ((zc ca).h : Int)) ((zc cb).y + ((zc cb).h : Int)) - min (zc ca).y (zc cb).y)))] ∧ H = [celB va ca, .box [.c (I 0), .c (I 0), .c (I 0), .c (.r (.slice none 0 0) [])]]) [some 0, some 1] (fun _ => [(2, .p 0 0 0), (4, .p 1 0 0), (6, gV p1 o1 (zc ca)), (7, gV p2 o2 (zc cb)), (9, .c (I (min (zc ca).x (zc cb).x))), (10, .c (I (min (zc ca).y (zc cb).y))), (11, .c (I (max ((zc ca).x + ((zc ca).w : Int)) ((zc cb).x + ((zc cb).w : Int)) - min (zc ca).x (zc cb).x))), (12, .c (I (max ((zc ca).y + ((zc ca).h : Int)) ((zc cb).y + ((zc cb).h : Int)) - min (zc ca).y (zc cb).y)))]) (fun _ => [celB va ca, .box [.c (I 0), .c (I 0), .c (I 0), .c (.r (.slice none 0 0) [])]]) (by decide) (ZNL hE) ZCF ZCH (fun _ => ⟨rfl, rfl⟩)) ?_
 rintro F H ⟨rfl, rfl⟩
 have hng := fun X Y W T h1 h2 => un_g (X := X) (Y := Y) (W := W) (T := T) ha hb h1 h2
 have her := fun h => un_e (st := ca.st) u0 h
 rw [u1, u2, u3, u4] at her
 obtain ⟨W, hWe⟩ : ∃ W : Nat, max ((zc ca).x + ((zc ca).w : Int)) ((zc cb).x + ((zc cb).w : Int)) - min (zc ca).x (zc cb).x = W := ⟨(max ((zc ca).x + ((zc ca).w : Int)) ((zc cb).x + ((zc cb).w : Int)) - min (zc ca).x (zc cb).x).toNat, by omega⟩
 obtain ⟨T, hTe⟩ : ∃ T : Nat, max ((zc ca).y + ((zc ca).h : Int)) ((zc cb).y + ((zc cb).h : Int)) - min (zc ca).y (zc cb).y = T := ⟨(max ((zc ca).y + ((zc ca).h : Int)) ((zc cb).y + ((zc cb).h : Int)) - min (zc ca).y (zc cb).y).toNat, by omega⟩
 rw [hWe, hTe]
 have hW0 : W ≤ 20000300 := by omega
 have hT0 : T ≤ 20000300 := by omega
 have her2 : 200 < W ∨ 200 < T → normC ca.st (covL ca ++ covL cb) = (⟨0, 0, 0, []⟩, 12) := fun h => her (by omega)
 have hi1 : ∀ p ∈ covG (zc ca), inBox (min (zc ca).x (zc cb).x) (min (zc ca).y (zc cb).y) W T p := fun p hp => by have := hbg p hp; unfold inBox; omega
 have hi2 : ∀ p ∈ covG (zc cb), inBox (min (zc ca).x (zc cb).x) (min (zc ca).y (zc cb).y) W T p := fun p hp => by have := hbk p hp; unfold inBox; omega
 have hnf := hng _ _ _ _ hi1 hi2
 have hX1 : -10000000 ≤ min (zc ca).x (zc cb).x ∧ min (zc ca).x (zc cb).x ≤ 10000000 := by omega
 have hY1 : -10000000 ≤ min (zc ca).y (zc cb).y ∧ min (zc ca).y (zc cb).y ≤ 10000000 := by omega
 clear hng her hWe hTe u0 u1 u2 u3 u4 hbg hbk e1 e2 e4 e5 e7 e8 hgx hgy hkx hky
 generalize hG : zc ca = G at *
 generalize hK : zc cb = K at *
 generalize min G.x K.x = X at *
 generalize min G.y K.y = Y at *
 generalize normC ca.st (covL ca ++ covL cb) = R at *
 by_cases hw2 : 200 < W
 ·obtain rfl := her2 (.inl hw2)
  refine WA ?_
  refine zb rfl ?_
  refine WA ?_
  exact zq (us := [.a [.c (I 0), .c (I 0), .c (I 0), .c (.r (.slice none 0 0) [])], .c (I 12)]) [] (fun g' => .t [.a [.c (I 0), .c (I 0), .c (I 0), .c (.r (.slice none 0 0) [])], .c (I 12)]) (fun _ => []) (.cella (n := 4) rfl (by kernel_rfl) (Cells.box rfl) (by simp) (by (try simp only [nm, putL, Nat.reduceAdd, cellsOf, cvOf]) <;> rfl) (.tmp rfl .nil)) (by decide) (fun i hi => absurd hi (Nat.not_lt_zero i)) (fun g' => .tL (.cons (.aL (.cons (.c rfl) (.cons (.c rfl) (.cons (.c rfl) (.cons (.c rfl) .nil))))) (.cons (.c rfl) .nil))) (fun _ => .nil) (fun g' => ⟨.slice none 0 0, rfl, rfl⟩)
 by_cases ht2 : 200 < T
 ·obtain rfl := her2 (.inr ht2)
  refine WA ?_
  refine zb rfl ?_
  refine WA ?_
  exact zq (us := [.a [.c (I 0), .c (I 0), .c (I 0), .c (.r (.slice none 0 0) [])], .c (I 12)]) [] (fun g' => .t [.a [.c (I 0), .c (I 0), .c (I 0), .c (.r (.slice none 0 0) [])], .c (I 12)]) (fun _ => []) (.cella (n := 4) rfl (by kernel_rfl) (Cells.box rfl) (by simp) (by (try simp only [nm, putL, Nat.reduceAdd, cellsOf, cvOf]) <;> rfl) (.tmp rfl .nil)) (by decide) (fun i hi => absurd hi (Nat.not_lt_zero i)) (fun g' => .tL (.cons (.aL (.cons (.c rfl) (.cons (.c rfl) (.cons (.c rfl) (.cons (.c rfl) .nil))))) (.cons (.c rfl) .nil))) (fun _ => .nil) (fun g' => ⟨.slice none 0 0, rfl, rfl⟩)
 clear her2
 have hW1 : W ≤ 1000 := by omega
 have hT1 : T ≤ 1000 := by omega
 refine WA ?_
 refine zd rfl ?_
 refine ZZ ?_
 refine WR ?_
 refine zf rfl (za false (fun _ => zV1 ca.st X Y W T hW1 hT1) rfl .fn rfl (by decide) (by kernel_rfl) rfl (fun _ => C0 rfl) (by simp)) ?_
 rintro _ _ ⟨_, _, _, ⟨rfl, rfl⟩, hF, hH⟩
 (refine NST hF hH ?_; clear hF hH; rintro rfl rfl)
 refine WE ?_
 refine zC1 (zh (K := fun F H => F = [(4, .p 0 0 0), (6, gV p1 o1 G), (7, gV p2 o2 K), (13, .p 1 0 0)] ∧ H = [.box [.c (I 0), .c (I 0), .c (I 0), .c (.r (.slice none 0 0) [])], gB ca.st X Y W T 2 (W * T), gArr (W * T) (List.replicate (W * T) false)]) [some 1, some 2, some 3] (fun _ => [(4, .p 0 0 0), (6, gV p1 o1 G), (7, gV p2 o2 K), (13, .p 1 0 0)]) (fun _ => [.box [.c (I 0), .c (I 0), .c (I 0), .c (.r (.slice none 0 0) [])], gB ca.st X Y W T 2 (W * T), gArr (W * T) (List.replicate (W * T) false)]) (by decide) (ZNL hE) ZCF ZCH (fun _ => ⟨rfl, rfl⟩)) ?_
 rintro F H ⟨rfl, rfl⟩
 refine ZR ?_
 iterate 2 refine WX1 ?_
 refine ZA (rd_bound rfl rfl) ?_
 refine zf rfl (zb1 [1, 2] (fun _ => [gB ca.st X Y W T 1 (W * T), gArr (W * T) (List.replicate (W * T) false)]) false (fun _ => each_set G p1 o1 hga ca.st X Y W T (List.replicate (W * T) false) ((by simp)) hW1 hT1 hX1 hY1 hi1) rfl .fn rfl (by decide) (by kernel_rfl) rfl ZCH (by decide) ZCH (by simp)) ?_
 rintro F1 H1 ⟨_, _, _, _, ⟨rfl, rfl⟩, hF, hH⟩
 rw [zI] at hF; (refine NSU hF hH ?_; clear hF hH; rintro rfl rfl)
 refine WE ?_
 refine ZR ?_
 iterate 2 refine WX1 ?_
 refine ZA (rd_bound rfl rfl) ?_
 refine zf rfl (zb1 [1, 2] (fun _ => [gB ca.st X Y W T 1 (W * T), gArr (W * T) (putG X Y W (List.replicate (W * T) false) (covG G))]) false (fun _ => each_set K p2 o2 hgb ca.st X Y W T (putG X Y W (List.replicate (W * T) false) (covG G)) ((by simp [putG_len])) hW1 hT1 hX1 hY1 hi2) rfl .fn rfl (by decide) (by kernel_rfl) rfl ZCH (by decide) ZCH (by simp)) ?_
 rintro F1 H1 ⟨_, _, _, _, ⟨rfl, rfl⟩, hF, hH⟩
 rw [zI] at hF; (refine NSU hF hH ?_; clear hF hH; rintro rfl rfl)
 refine WE ?_
 have hgu : GOk (unG ca.st X Y W T (covG G) (covG K)) := ⟨unG_len, hW1, hT1, hX1, hY1⟩
 refine zC1 (zh (K := fun F H => ∃ pv1 v1, F = [(4, .p 0 0 0), (13, gV pv1 v1 (unG ca.st X Y W T (covG G) (covG K)))] ∧ H = [.box [.c (I 0), .c (I 0), .c (I 0), .c (.r (.slice none 0 0) [])]]) [some 0] (fun f => [(4, .p 0 0 0), (13, gV (f (.p 1 0 0)) (f (.o 2 0 (W * T) (W * T))) (unG ca.st X Y W T (covG G) (covG K)))]) (fun _ => [.box [.c (I 0), .c (I 0), .c (I 0), .c (.r (.slice none 0 0) [])]]) (by decide) (ZNL hE) (fun _ => .cons rfl (.p rfl) (.cons rfl (frzG (g := (unG ca.st X Y W T (covG G) (covG K))) rfl rfl unG_len rfl rfl) .nil)) ZCH (fun _ => ⟨_, _, rfl, rfl⟩)) ?_
 rintro F H ⟨pv1, v1, rfl, rfl⟩
 refine WR ?_
 refine zf rfl (za false (fun _ => cells_v (unG ca.st X Y W T (covG G) (covG K)) pv1 v1 hgu (by simp only [unG]; omega)) rfl .fn rfl (by decide) (by kernel_rfl) rfl (fun _ => C0 rfl) (by simp)) ?_
 rintro _ _ ⟨_, _, _, ⟨v2, rfl, rfl⟩, hF, hH⟩
 rw [hnf] at hF
 (refine NST hF hH ?_; clear hF hH; rintro rfl rfl)
 refine WE ?_
 exact zq (us := [celA v2 R.1, .c (I R.2)]) [] (fun _ => .t [celA v2 R.1, .c (I R.2)]) (fun _ => []) (.cella (n := 4) rfl (by kernel_rfl) (Cells.box rfl) (by simp) (by (try simp only [nm, putL, Nat.reduceAdd, cellsOf, cvOf]) <;> rfl) (.tmp rfl .nil)) (by decide) (fun i hi => absurd hi (Nat.not_lt_zero i)) (fun g' => .tL (.cons (.aL (.cons (.c rfl) (.cons (.c rfl) (.cons (.c rfl) (.cons (.c rfl) .nil))))) (.cons (.c rfl) .nil))) (fun _ => .nil) (fun g' => ⟨v2, rfl, rfl⟩)
end Go.Proofs.YtfilfijammemfaaGreatDoor
