/- Ways through the centers of cells: plain. -/
import Derived.Test.YtniolldgidgffaaGreatDoorQbb
import Derived.Test.YtniolldgidgffaaGreatDoorQau
import Derived.Test.YtniolldgidgffaaGreatDoorQba
set_option linter.unusedSimpArgs false
set_option linter.unusedVariables false
/- Sets of spots, as maps: plain. -/
namespace Go.Proofs.YtniolldgidgffaaGreatDoor
open Go Go.RowKit
def encP : Enc Spot := ⟨fun p => .agg #[.int .i64 p.1, .int .i64 p.2], fun p => .a [.c (.s (.int .i64 p.1)), .c (.s (.int .i64 p.2))], fun p ρ H => by simp [AV.den, AV.denL, CV.den], fun p w S ρ H => .a fun x hx => by
 simp only [List.mem_cons, List.not_mem_nil, or_false] at hx
 rcases hx with rfl | rfl
 ·exact .c (.s _)
 ·exact .c (.s _)⟩
def encT : Enc Bool := ⟨fun b => .bool b, fun b => .c (.s (.bool b)), fun b ρ H => rfl, fun b w S ρ H => .c (.s _)⟩
abbrev SE := List (Nat × Spot × Bool)
structure SetOk (es : SE) (ck : Nat) (L : List Spot) : Prop where
 hv : ∀ e ∈ es, e.2.2 = true
 hb : ∀ e ∈ es, e.1 < ck
 nb : (es.map (·.1)).Nodup
 nk : (es.map (·.2.1)).Nodup
 hm : ∀ p, p ∈ es.map (·.2.1) ↔ p ∈ L
theorem SetOk.nil : SetOk [] 0 [] := ⟨fun e h => (by cases h), fun e h => (by cases h), .nil, .nil, fun p => Iff.rfl⟩
theorem SetOk.to {es : SE} {ck : Nat} {L L' : List Spot} (h : SetOk es ck L) (hL : ∀ p, p ∈ L ↔ p ∈ L') : SetOk es ck L' := ⟨h.hv, h.hb, h.nb, h.nk, fun p => (h.hm p).trans (hL p)⟩
theorem mget_no {es : SE} {p : Spot} : mget es p = none ↔ p ∉ es.map (·.2.1) := by
 induction es with
 | nil => simp [mget]
 | cons e es ih =>
  simp only [mget, List.map_cons, List.mem_cons]
  split
  ·rename_i h; simp [h]
  ·rename_i h; rw [ih]; simp [h]
theorem mget_in {es : SE} {p : Spot} (hv : ∀ e ∈ es, e.2.2 = true) : (mget es p).getD false = decide (p ∈ es.map (·.2.1)) := by
 induction es with
 | nil => simp [mget]
 | cons e es ih =>
  simp only [mget, List.map_cons, List.mem_cons]
  split
  ·rename_i h; simp [h, hv e List.mem_cons_self]
  ·rename_i h; rw [ih fun e he => hv e (List.mem_cons_of_mem _ he)]; simp [h]
theorem SetOk.get {es : SE} {ck : Nat} {L : List Spot} (h : SetOk es ck L) (p : Spot) : (mget es p).getD false = decide (p ∈ L) := by
 rw [mget_in h.hv]; simp only [h.hm]
theorem mset_same {ck : Nat} {p : Spot} : ∀ {es : SE}, (∀ e ∈ es, e.2.2 = true) → p ∈ es.map (·.2.1) → mset ck p true es = es
 | [], _, h => by simp at h
 | e :: es, hv, h => by
  unfold mset
  split
  ·rename_i hp
   have := hv e List.mem_cons_self
   obtain ⟨a, b, c⟩ := e
   simp only at hp this ⊢
   rw [hp, this]
  ·rename_i hp
   rw [mset_same (fun e he => hv e (List.mem_cons_of_mem _ he)) (by rw [List.map_cons, List.mem_cons] at h; exact h.resolve_left hp)]
theorem SetOk.set {es : SE} {ck : Nat} {L : List Spot} (h : SetOk es ck L) (p : Spot) : SetOk (mset ck p true es) (mclk ck p es) (L ++ [p]) := by
 by_cases hp : p ∈ es.map (·.2.1)
 ·have hs : (mget es p).isSome = true := by
   cases hg : mget es p with
   | some v => rfl
   | none => exact absurd hp (mget_no.1 hg)
  rw [mset_same h.hv hp, mclk, if_pos hs]
  refine h.to fun q => ?_
  rw [List.mem_append, List.mem_singleton]
  constructor
  ·exact .inl
  ·rintro (hq | rfl)
   ·exact hq
   ·exact (h.hm q).1 hp
 ·have hn := mget_no.2 hp
  rw [mset_none hn, mclk, if_neg (by rw [hn]; simp)]
  refine ⟨fun e he => ?_, fun e he => ?_, ?_, ?_, fun q => ?_⟩
  ·rcases List.mem_append.1 he with he | he
   ·exact h.hv e he
   ·rw [List.mem_singleton] at he; rw [he]
  ·rcases List.mem_append.1 he with he | he
   ·exact Nat.lt_succ_of_lt (h.hb e he)
   ·rw [List.mem_singleton] at he; rw [he]; exact Nat.lt_succ_self _
  ·rw [List.map_append]
   refine List.nodup_append.2 ⟨h.nb, by simp, fun a ha b hb e => ?_⟩
   simp only [List.map_cons, List.map_nil, List.mem_singleton] at hb
   obtain ⟨e', he', rfl⟩ := List.mem_map.1 ha
   have := h.hb e' he'
   omega
  ·rw [List.map_append]
   refine List.nodup_append.2 ⟨h.nk, by simp, fun a ha b hb e => ?_⟩
   simp only [List.map_cons, List.map_nil, List.mem_singleton] at hb
   exact hp (by rw [← hb, ← e]; exact ha)
  ·rw [List.map_append, List.mem_append, List.mem_append, h.hm]; simp
def seenT (es : SE) (seen : List Nat) : List Spot := (es.filter fun e => seen.contains e.1).map (·.2.1)
def unseen (es : SE) (seen : List Nat) : Nat := (es.filter fun e => !seen.contains e.1).length
theorem seenT_mem {es : SE} {seen : List Nat} {p : Spot} : p ∈ seenT es seen ↔ ∃ e ∈ es, e.1 ∈ seen ∧ e.2.1 = p := by
 simp only [seenT, List.mem_map, List.mem_filter, List.contains_iff_mem]
 constructor
 ·rintro ⟨e, ⟨h1, h2⟩, h3⟩; exact ⟨e, h1, h2, h3⟩
 ·rintro ⟨e, h1, h2, h3⟩; exact ⟨e, ⟨h1, h2⟩, h3⟩
theorem nodup_inj {α β : Type} {f : α → β} : ∀ {l : List α}, (l.map f).Nodup → ∀ {a b : α}, a ∈ l → b ∈ l → f a = f b → a = b
 | [], _, _, _, h, _, _ => by cases h
 | x :: l, hd, a, b, ha, hb, e => by
  rw [List.map_cons, List.nodup_cons] at hd
  rcases List.mem_cons.1 ha with rfl | ha' <;> rcases List.mem_cons.1 hb with rfl | hb'
  ·rfl
  ·exact absurd (e ▸ List.mem_map_of_mem hb') hd.1
  ·exact absurd (e ▸ List.mem_map_of_mem ha') hd.1
  ·exact nodup_inj hd.2 ha' hb' e
theorem seenT_snoc {es : SE} {seen : List Nat} {e : Nat × Spot × Bool} (hn : (es.map (·.1)).Nodup) (he : e ∈ es) {p : Spot} : p ∈ seenT es (seen ++ [e.1]) ↔ p ∈ seenT es seen ++ [e.2.1] := by
 rw [seenT_mem, List.mem_append, List.mem_singleton, seenT_mem]
 constructor
 ·rintro ⟨e', h1, h2, rfl⟩
  rw [List.mem_append, List.mem_singleton] at h2
  rcases h2 with h2 | h2
  ·exact .inl ⟨e', h1, h2, rfl⟩
  ·exact .inr (by rw [nodup_inj hn h1 he h2])
 ·rintro (⟨e', h1, h2, rfl⟩ | rfl)
  ·exact ⟨e', h1, List.mem_append_left _ h2, rfl⟩
  ·exact ⟨e, he, by simp, rfl⟩
theorem seenT_end {es : SE} {ck : Nat} {L : List Spot} (h : SetOk es ck L) {seen : List Nat} (hs : ∀ e ∈ es, e.1 ∈ seen) {p : Spot} : p ∈ seenT es seen ↔ p ∈ L := by
 rw [seenT_mem, ← h.hm, List.mem_map]
 constructor
 ·rintro ⟨e, h1, _, h3⟩; exact ⟨e, h1, h3⟩
 ·rintro ⟨e, h1, h3⟩; exact ⟨e, h1, hs e h1, h3⟩
theorem filter_lt {α : Type} {p q : α → Bool} : ∀ {l : List α} {a : α}, (∀ x, q x = true → p x = true) → a ∈ l → p a = true → q a = false → (l.filter q).length < (l.filter p).length
 | [], _, _, h, _, _ => by cases h
 | x :: l, a, hpq, ha, h1, h2 => by
  have hle : (l.filter q).length ≤ (l.filter p).length := by
   clear ha
   induction l with
   | nil => simp
   | cons y l ih =>
    simp only [List.filter_cons]
    cases hq : q y with
    | true => rw [if_pos rfl, if_pos (hpq y hq), List.length_cons, List.length_cons]; omega
    | false => rw [if_neg (by simp)]; split <;> (try rw [List.length_cons]) <;> omega
  simp only [List.filter_cons]
  rcases List.mem_cons.1 ha with rfl | ha
  ·rw [if_pos h1, if_neg (by simp [h2]), List.length_cons]; omega
  ·have := filter_lt hpq ha h1 h2
   cases hq : q x with
   | true => rw [if_pos rfl, if_pos (hpq x hq), List.length_cons, List.length_cons]; omega
   | false => rw [if_neg (by simp)]; split <;> (try rw [List.length_cons]) <;> omega
theorem unseen_lt {es : SE} {seen : List Nat} {e : Nat × Spot × Bool} (he : e ∈ es) (hn : e.1 ∉ seen) : unseen es (seen ++ [e.1]) < unseen es seen :=
 filter_lt (a := e) (fun x hx => by simp at hx ⊢; exact hx.1) he (by simp [hn]) (by simp)
theorem x0_mem {L L' : List Spot} (h : ∀ p, p ∈ L ↔ p ∈ L') : x0 L = x0 L' ∧ x1 L = x1 L' ∧ y0 L = y0 L' ∧ y1 L = y1 L' := by
 have hc : ∀ x, x ∈ cols L ↔ x ∈ cols L' := fun x => by simp only [cols, List.mem_map, h]
 have hr : ∀ x, x ∈ rws L ↔ x ∈ rws L' := fun x => by simp only [rws, List.mem_map, h]
 exact ⟨mnL_mem hc, mxL_mem hc, mnL_mem hr, mxL_mem hr⟩
theorem x0_snocs {L : List Spot} {p : Spot} (h : L ≠ []) : x0 (L ++ [p]) = min (x0 L) p.1 ∧ x1 (L ++ [p]) = max (x1 L) p.1 ∧ y0 (L ++ [p]) = min (y0 L) p.2 ∧ y1 (L ++ [p]) = max (y1 L) p.2 := by
 have hc : cols L ≠ [] := by simpa [cols] using h
 have hr : rws L ≠ [] := by simpa [rws] using h
 have e1 : cols (L ++ [p]) = cols L ++ [p.1] := by simp [cols]
 have e2 : rws (L ++ [p]) = rws L ++ [p.2] := by simp [rws]
 unfold x0 x1 y0 y1
 rw [e1, e2]
 exact ⟨mnL_snoc hc, mxL_snoc hc, mnL_snoc hr, mxL_snoc hr⟩
end Go.Proofs.YtniolldgidgffaaGreatDoor

/- The union of two grids: plain. -/
namespace Go.Proofs.YtniolldgidgffaaGreatDoor
def ixG (x y : Int) (w : Nat) (p : Spot) : Nat := ((p.2 - y) * (w : Int) + p.1 - x).toNat
def inBox (x y : Int) (w h : Nat) (p : Spot) : Prop := (x ≤ p.1 ∧ p.1 < x + w) ∧ (y ≤ p.2 ∧ p.2 < y + h)
theorem ix_box {x y : Int} {w h : Nat} {p : Spot} (hp : inBox x y w h p) : (p.2 - y) * (w : Int) + p.1 - x = ixG x y w p ∧ ixG x y w p < w * h ∧ ixG x y w p = (p.2 - y).toNat * w + (p.1 - x).toNat := by
 obtain ⟨⟨h1, h2⟩, h3, h4⟩ := hp
 obtain ⟨a, ha⟩ : ∃ a : Nat, p.1 = x + a := ⟨(p.1 - x).toNat, by omega⟩
 obtain ⟨b, hb⟩ : ∃ b : Nat, p.2 = y + b := ⟨(p.2 - y).toNat, by omega⟩
 have e : (p.2 - y) * (w : Int) + p.1 - x = ((b * w + a : Nat) : Int) := by
  rw [ha, hb, show y + (b : Int) - y = b by omega]
  push_cast
  omega
 have hlt : b * w + a < w * h := by
  have h5 : (b + 1) * w ≤ h * w := Nat.mul_le_mul_right _ (by omega)
  rw [Nat.succ_mul] at h5
  rw [Nat.mul_comm w h]
  omega
 unfold ixG
 rw [e, Int.toNat_natCast]
 exact ⟨rfl, hlt, by rw [hb, ha, show y + (b : Int) - y = b by omega, show x + (a : Int) - x = a by omega]; rfl⟩
theorem spt_ixG {g : Grd} {p : Spot} (hp : inBox g.x g.y g.w g.h p) : spt g (ixG g.x g.y g.w p) = p := by
 rw [(ix_box hp).2.2]
 obtain ⟨⟨h1, h2⟩, h3, h4⟩ := hp
 rw [spt_at (by omega)]
 ext <;> simp only <;> omega
theorem set_cov {g : Grd} {i : Nat} (hi : i < g.on.length) {q : Spot} : q ∈ covG { g with on := g.on.set i true } ↔ q ∈ covG g ∨ q = spt g i := by
 rw [covG_mem, covG_mem]
 simp only
 constructor
 ·rintro ⟨j, h1, rfl⟩
  by_cases e : i = j
  ·subst e; exact .inr rfl
  ·rw [List.getElem?_set_ne e] at h1; exact .inl ⟨j, h1, rfl⟩
 ·rintro (⟨j, h1, rfl⟩ | rfl)
  ·by_cases e : i = j
   ·subst e; exact ⟨i, by rw [List.getElem?_set_self hi], rfl⟩
   ·exact ⟨j, by rw [List.getElem?_set_ne e]; exact h1, rfl⟩
  ·exact ⟨i, by rw [List.getElem?_set_self hi], rfl⟩
theorem cov_none {st x y : Int} {w h n : Nat} {q : Spot} : ¬ q ∈ covG ⟨st, x, y, w, h, List.replicate n false⟩ := fun hq => by
 obtain ⟨i, h1, _⟩ := covG_mem.1 hq
 simp only at h1
 rw [List.getElem?_replicate] at h1
 split at h1 <;> simp at h1
end Go.Proofs.YtniolldgidgffaaGreatDoor

/- The union of cells, by value: Union. -/
-- NEWM
namespace Go.Proofs.YtniolldgidgffaaGreatDoor
open Go Go.RowKit
set_option maxRecDepth 100000
end Go.Proofs.YtniolldgidgffaaGreatDoor

/- Ways through the centers of cells: plain. -/
namespace Go.Proofs.YtniolldgidgffaaGreatDoor
def ctrS (st : Int) (q : Spot) : Spot := (q.1 * st + st / 2, q.2 * st + st / 2)
def onS (a b p : Spot) : Prop := (b.1 - a.1) * (p.2 - a.2) = (b.2 - a.2) * (p.1 - a.1) ∧ (min a.1 b.1 ≤ p.1 ∧ p.1 ≤ max a.1 b.1) ∧ (min a.2 b.2 ≤ p.2 ∧ p.2 ≤ max a.2 b.2)
theorem onS_h {a b p : Spot} (h : a.2 = b.2) : onS a b p ↔ a.2 = p.2 ∧ min a.1 b.1 ≤ p.1 ∧ p.1 ≤ max a.1 b.1 := by
 unfold onS
 constructor
 ·rintro ⟨_, h2, h3⟩; exact ⟨by omega, h2⟩
 ·rintro ⟨h1, h2⟩
  exact ⟨by rw [show p.2 - a.2 = 0 by omega, show b.2 - a.2 = 0 by omega]; simp, h2, by omega⟩
theorem bet_pos {t d e n : Int} (hn : 0 < n) (ht : 0 ≤ t ∧ t ≤ n) (h : n * d = t * e) : min 0 e ≤ d ∧ d ≤ max 0 e := by
 by_cases he : 0 ≤ e
 ·have h1 : 0 ≤ t * e := Int.mul_nonneg ht.1 he
  have h2 : t * e ≤ n * e := Int.mul_le_mul_of_nonneg_right ht.2 he
  have h3 : 0 ≤ d := Int.le_of_mul_le_mul_left (a := n) (by rw [h]; simpa using h1) hn
  have h4 : d ≤ e := Int.le_of_mul_le_mul_left (a := n) (by rw [h]; exact h2) hn
  omega
 ·have h1 : t * e ≤ 0 := Int.mul_nonpos_of_nonneg_of_nonpos ht.1 (by omega)
  have h2 : n * e ≤ t * e := Int.mul_le_mul_of_nonpos_right ht.2 (by omega)
  have h3 : d ≤ 0 := Int.le_of_mul_le_mul_left (a := n) (by rw [h]; simpa using h1) hn
  have h4 : e ≤ d := Int.le_of_mul_le_mul_left (a := n) (by rw [h]; exact h2) hn
  omega
theorem bet_any {t d e n : Int} (hn : n ≠ 0) (ht : min 0 n ≤ t ∧ t ≤ max 0 n) (h : n * d = t * e) : min 0 e ≤ d ∧ d ≤ max 0 e := by
 by_cases h0 : 0 < n
 ·exact bet_pos h0 (by omega) h
 ·exact bet_pos (t := -t) (n := -n) (by omega) (by omega) (by rw [Int.neg_mul, Int.neg_mul, h])
theorem onS_v {a b p : Spot} (h : a.2 ≠ b.2) : onS a b p ↔ (min a.2 b.2 ≤ p.2 ∧ p.2 ≤ max a.2 b.2) ∧ ((p.2 - a.2) * (b.1 - a.1)).tmod (b.2 - a.2) = 0 ∧ a.1 + ((p.2 - a.2) * (b.1 - a.1)).tdiv (b.2 - a.2) = p.1 := by
 have hd : b.2 - a.2 ≠ 0 := by omega
 unfold onS
 constructor
 ·rintro ⟨h1, h2, h3⟩
  have e : (p.2 - a.2) * (b.1 - a.1) = (b.2 - a.2) * (p.1 - a.1) := by rw [Int.mul_comm, h1]
  rw [e]
  refine ⟨h3, Int.mul_tmod_right _ _, ?_⟩
  rw [Int.mul_tdiv_cancel_left _ hd]; omega
 ·rintro ⟨h1, h2, h3⟩
  have e := Int.mul_tdiv_add_tmod ((p.2 - a.2) * (b.1 - a.1)) (b.2 - a.2)
  rw [h2, Int.add_zero] at e
  have hb := bet_any hd (t := p.2 - a.2) (by omega) e
  refine ⟨?_, by omega, h1⟩
  rw [← h3, show a.1 + ((p.2 - a.2) * (b.1 - a.1)).tdiv (b.2 - a.2) - a.1 = ((p.2 - a.2) * (b.1 - a.1)).tdiv (b.2 - a.2) by omega, e, Int.mul_comm]
theorem ctr_div {st m : Int} (h : 1 ≤ st) : (m * st + st / 2) / st = m := by
 have h2 : 0 ≤ st / 2 ∧ st / 2 < st := by omega
 rw [Int.add_comm, Int.add_mul_ediv_right _ _ (by omega), Int.ediv_eq_zero_of_lt h2.1 h2.2]
 omega
theorem tdiv_le {t e n : Int} (hn : n ≠ 0) (ht : t.natAbs ≤ n.natAbs) : ((t * e).tdiv n).natAbs ≤ e.natAbs := by
 rw [Int.natAbs_tdiv, Int.natAbs_mul]
 refine Nat.div_le_of_le_mul ?_
 exact Nat.mul_le_mul_right _ ht
def setQ (g : Grd) (on : List Bool) (q : Spot) : List Bool := if q ∈ covG g then on.set (ixG g.x g.y g.w q) true else on
theorem covG_box {g : Grd} (hl : g.on.length = g.w * g.h) {p : Spot} (hp : p ∈ covG g) : inBox g.x g.y g.w g.h p := by
 have h := (atG_iff hl (a := p.1) (b := p.2)).2 hp
 unfold atG at h
 simp only [Bool.and_eq_true, decide_eq_true_iff] at h
 unfold inBox
 omega
theorem setQ_len {g : Grd} {on : List Bool} {q : Spot} : (setQ g on q).length = on.length := by
 unfold setQ
 split
 ·rw [List.length_set]
 ·rfl
theorem setQ_cov {g : Grd} (hl : g.on.length = g.w * g.h) {on : List Bool} (ho : on.length = g.w * g.h) {q p : Spot} : p ∈ covG { g with on := setQ g on q } ↔ p ∈ covG { g with on := on } ∨ (p = q ∧ q ∈ covG g) := by
 unfold setQ
 split
 ·rename_i h
  have hb := covG_box hl h
  have := set_cov (g := { g with on := on }) (i := ixG g.x g.y g.w q) (by simp only; rw [ho]; exact (ix_box hb).2.1) (q := p)
  simp only at this
  rw [this]
  rw [show spt { g with on := on } (ixG g.x g.y g.w q) = q from spt_ixG (g := { g with on := on }) hb]
  simp [h]
 ·rename_i h
  simp [h]
def InvH (g : Grd) (on : List Bool) (a b : Spot) (k : Nat) (on1 : List Bool) : Prop := ∀ q, q ∈ covG { g with on := on1 } ↔ q ∈ covG { g with on := on } ∨ (q ∈ covG g ∧ onS a b (ctrS g.st q) ∧ q.1 < g.x + k)
def InvV (g : Grd) (on : List Bool) (a b : Spot) (k : Nat) (on1 : List Bool) : Prop := ∀ q, q ∈ covG { g with on := on1 } ↔ q ∈ covG { g with on := on } ∨ (q ∈ covG g ∧ onS a b (ctrS g.st q) ∧ q.2 < g.y + k)
theorem invH_0 {g : Grd} (hl : g.on.length = g.w * g.h) {on : List Bool} {a b : Spot} : InvH g on a b 0 on := fun q => ⟨.inl, fun h => h.elim id fun h => by
 have := covG_box hl h.1
 unfold inBox at this
 omega⟩
theorem invV_0 {g : Grd} (hl : g.on.length = g.w * g.h) {on : List Bool} {a b : Spot} : InvV g on a b 0 on := fun q => ⟨.inl, fun h => h.elim id fun h => by
 have := covG_box hl h.1
 unfold inBox at this
 omega⟩
theorem invH_n {g : Grd} (hl : g.on.length = g.w * g.h) {on on1 : List Bool} {a b : Spot} (h : InvH g on a b g.w on1) (q : Spot) : q ∈ covG { g with on := on1 } ↔ q ∈ covG { g with on := on } ∨ (q ∈ covG g ∧ onS a b (ctrS g.st q)) := by
 rw [h q]
 constructor
 ·exact fun h => h.imp id fun h => ⟨h.1, h.2.1⟩
 ·refine fun h => h.imp id fun h => ⟨h.1, h.2, ?_⟩
  have := covG_box hl h.1
  unfold inBox at this
  omega
theorem invV_n {g : Grd} (hl : g.on.length = g.w * g.h) {on on1 : List Bool} {a b : Spot} (h : InvV g on a b g.h on1) (q : Spot) : q ∈ covG { g with on := on1 } ↔ q ∈ covG { g with on := on } ∨ (q ∈ covG g ∧ onS a b (ctrS g.st q)) := by
 rw [h q]
 constructor
 ·exact fun h => h.imp id fun h => ⟨h.1, h.2.1⟩
 ·refine fun h => h.imp id fun h => ⟨h.1, h.2, ?_⟩
  have := covG_box hl h.1
  unfold inBox at this
  omega
theorem invH_no {g : Grd} {on on1 : List Bool} {a b : Spot} {k : Nat} (h : InvH g on a b k on1) (hn : ∀ q, q ∈ covG g → q.1 = g.x + k → ¬ onS a b (ctrS g.st q)) : InvH g on a b (k + 1) on1 := fun q => by
 rw [h q]
 constructor
 ·exact fun h => h.imp id fun h => ⟨h.1, h.2.1, by have := h.2.2; omega⟩
 ·refine fun h => h.imp id fun h => ⟨h.1, h.2.1, ?_⟩
  by_cases e : q.1 = g.x + k
  ·exact absurd h.2.1 (hn q h.1 e)
  ·have := h.2.2; omega
theorem invV_no {g : Grd} {on on1 : List Bool} {a b : Spot} {k : Nat} (h : InvV g on a b k on1) (hn : ∀ q, q ∈ covG g → q.2 = g.y + k → ¬ onS a b (ctrS g.st q)) : InvV g on a b (k + 1) on1 := fun q => by
 rw [h q]
 constructor
 ·exact fun h => h.imp id fun h => ⟨h.1, h.2.1, by have := h.2.2; omega⟩
 ·refine fun h => h.imp id fun h => ⟨h.1, h.2.1, ?_⟩
  by_cases e : q.2 = g.y + k
  ·exact absurd h.2.1 (hn q h.1 e)
  ·have := h.2.2; omega
theorem invH_yes {g : Grd} (hl : g.on.length = g.w * g.h) {on on1 : List Bool} (ho : on1.length = g.w * g.h) {a b : Spot} {k : Nat} {p : Spot} (h : InvH g on a b k on1) (hp : p.1 = g.x + k) (hs : ∀ q, q ∈ covG g → q.1 = g.x + k → (onS a b (ctrS g.st q) ↔ q = p)) : InvH g on a b (k + 1) (setQ g on1 p) := fun q => by
 rw [setQ_cov hl ho, h q]
 constructor
 ·rintro ((h | h) | h)
  ·exact .inl h
  ·exact .inr ⟨h.1, h.2.1, by have := h.2.2; omega⟩
  ·obtain ⟨rfl, h⟩ := h
   exact .inr ⟨h, (hs q h hp).2 rfl, by omega⟩
 ·rintro (h | ⟨h1, h2, h3⟩)
  ·exact .inl (.inl h)
  ·by_cases e : q.1 = g.x + k
   ·have := (hs q h1 e).1 h2
    subst this
    exact .inr ⟨rfl, h1⟩
   ·exact .inl (.inr ⟨h1, h2, by omega⟩)
theorem invV_yes {g : Grd} (hl : g.on.length = g.w * g.h) {on on1 : List Bool} (ho : on1.length = g.w * g.h) {a b : Spot} {k : Nat} {p : Spot} (h : InvV g on a b k on1) (hp : p.2 = g.y + k) (hs : ∀ q, q ∈ covG g → q.2 = g.y + k → (onS a b (ctrS g.st q) ↔ q = p)) : InvV g on a b (k + 1) (setQ g on1 p) := fun q => by
 rw [setQ_cov hl ho, h q]
 constructor
 ·rintro ((h | h) | h)
  ·exact .inl h
  ·exact .inr ⟨h.1, h.2.1, by have := h.2.2; omega⟩
  ·obtain ⟨rfl, h⟩ := h
   exact .inr ⟨h, (hs q h hp).2 rfl, by omega⟩
 ·rintro (h | ⟨h1, h2, h3⟩)
  ·exact .inl (.inl h)
  ·by_cases e : q.2 = g.y + k
   ·have := (hs q h1 e).1 h2
    subst this
    exact .inr ⟨rfl, h1⟩
   ·exact .inl (.inr ⟨h1, h2, by omega⟩)
theorem stepH {st : Int} (hst : 1 ≤ st) {a b q : Spot} {m : Int} (hh : a.2 = b.2) (hc : a.2 / st * st + st / 2 = a.2) (hq : q.1 = m) : onS a b (ctrS st q) ↔ q = (m, a.2 / st) ∧ min a.1 b.1 ≤ m * st + st / 2 ∧ m * st + st / 2 ≤ max a.1 b.1 := by
 rw [onS_h hh]
 unfold ctrS
 simp only
 rw [hq]
 constructor
 ·rintro ⟨h1, h2⟩
  refine ⟨?_, h2⟩
  ext
  ·exact hq
  ·rw [h1, ctr_div hst]
 ·rintro ⟨h1, h2⟩
  refine ⟨?_, h2⟩
  rw [h1]
  exact hc.symm
theorem stepV {st : Int} (hst : 1 ≤ st) {a b q : Spot} {m y : Int} (hh : a.2 ≠ b.2) (hy : m * st + st / 2 = y) (hq : q.2 = m) : onS a b (ctrS st q) ↔ (min a.2 b.2 ≤ y ∧ y ≤ max a.2 b.2) ∧ ((y - a.2) * (b.1 - a.1)).tmod (b.2 - a.2) = 0 ∧ (a.1 + ((y - a.2) * (b.1 - a.1)).tdiv (b.2 - a.2)) / st * st + st / 2 = a.1 + ((y - a.2) * (b.1 - a.1)).tdiv (b.2 - a.2) ∧ q = ((a.1 + ((y - a.2) * (b.1 - a.1)).tdiv (b.2 - a.2)) / st, m) := by
 rw [onS_v hh]
 unfold ctrS
 simp only
 rw [hq, hy]
 generalize a.1 + ((y - a.2) * (b.1 - a.1)).tdiv (b.2 - a.2) = px
 constructor
 ·rintro ⟨h1, h2, h3⟩
  refine ⟨h1, h2, ?_, ?_⟩
  ·rw [h3, ctr_div hst]
  ·ext
   ·rw [h3, ctr_div hst]
   ·exact hq
 ·rintro ⟨h1, h2, h3, h4⟩
  refine ⟨h1, h2, ?_⟩
  rw [h4]
  exact h3.symm
end Go.Proofs.YtniolldgidgffaaGreatDoor
