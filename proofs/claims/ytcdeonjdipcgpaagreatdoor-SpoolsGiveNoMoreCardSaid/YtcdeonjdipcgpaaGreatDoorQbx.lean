/- The program's Jobs and Filament, by value. -/
import Derived.Test.YtcdeonjdipcgpaaGreatDoorQbw
import Derived.Test.YtcdeonjdipcgpaaGreatDoorQbp
import Derived.Lib.Atoi
import Derived.Lib.ItoaLen
set_option linter.unusedSimpArgs false
set_option linter.unusedVariables false
namespace Go.Proofs.YtcdeonjdipcgpaaGreatDoor
open Go Go.RowKit
theorem decFrom_snoc (b : UInt8) : ∀ (l : List UInt8) (acc : Nat), Lib.decFrom acc (l ++ [b]) = (Lib.decFrom acc l).bind fun m => (Lib.digitVal b).map fun d => m * 10 + d
 | [], acc => by
  simp only [List.nil_append, Lib.decFrom, Option.bind_some]
  cases Lib.digitVal b <;> rfl
 | x :: l, acc => by
  simp only [List.cons_append, Lib.decFrom]
  cases Lib.digitVal x with
  | none => rfl
  | some d => exact decFrom_snoc b l _
theorem digit_of (d : Nat) (h : d < 10) : Lib.digitVal (UInt8.ofNat (48 + d)) = some d := by
 have : ∀ d : Fin 10, Lib.digitVal (UInt8.ofNat (48 + d.val)) = some d.val := by decide
 exact this ⟨d, h⟩
theorem dec_back : ∀ (n u : Nat), u ≤ n → Lib.decFrom 0 (Lib.decDigits u) = some u
 | 0, u, h => by
  obtain rfl : u = 0 := by omega
  rw [Lib.decDigits, dif_pos (by decide)]
  rfl
 | n + 1, u, h => by
  rw [Lib.decDigits]
  split
  ·rename_i h1
   simp only [Lib.decFrom]
   rw [digit_of u h1]
   simp
  ·rename_i h1
   rw [decFrom_snoc, dec_back n (u / 10) (by omega), digit_of (u % 10) (by omega)]
   simp
   omega
theorem dec_digits (u : Nat) : ∀ b ∈ Lib.decDigits u, 48 ≤ b.toNat ∧ b.toNat ≤ 57 := fun b hb => by
 obtain ⟨k, hk⟩ := List.mem_iff_getElem?.1 hb
 obtain ⟨d, hd⟩ := Lib.digit_of_decFrom _ _ _ (dec_back u u (Nat.le_refl _)) k b hk
 have := Lib.digitVal_eq hd
 omega
theorem itoa_nat (n : Int) (h : 0 ≤ n) : Lib.itoa n = Lib.decDigits n.toNat := by unfold Lib.itoa; rw [if_neg (by omega)]
theorem atoi_back (n : Int) (h : 0 ≤ n) : Lib.atoi (Lib.itoa n) = some n := by
 rw [itoa_nat n h]
 have h1 := dec_back n.toNat n.toNat (Nat.le_refl _)
 have h2 := dec_digits n.toNat
 have h3 : 0 < (Lib.decDigits n.toNat).length := by rw [Lib.decDigits_length]; exact Lib.nDigits_pos _
 cases hl : Lib.decDigits n.toNat with
 | nil => rw [hl] at h3; cases h3
 | cons b r =>
  rw [hl] at h1 h2
  have hb := h2 b List.mem_cons_self
  have n1 : ¬ b = 45 := fun e => by subst e; revert hb; decide
  have n2 : ¬ b = 43 := fun e => by subst e; revert hb; decide
  unfold Lib.atoi
  simp only [beq_iff_eq, n1, n2, if_false, Lib.decNat, List.isEmpty_cons, Bool.false_eq_true]
  rw [h1]
  simp
  omega
theorem itoa_short (n : Int) (h : 0 ≤ n) (h2 : n ≤ 100000000) : (Lib.itoa n).length ≤ 9 := by
 rw [itoa_nat n h, Lib.decDigits_length]
 rcases Nat.lt_or_ge (Lib.nDigits n.toNat) 10 with h3 | h3
 ·omega
 ·exfalso
  have h4 : ∀ (k u : Nat), k + 1 ≤ Lib.nDigits u → 10 ^ k ≤ u ∨ k = 0 := fun k => by
   induction k with
   | zero => exact fun u _ => .inr rfl
   | succ k ih =>
    intro u hu
    by_cases hs : u < 10
    ·rw [Lib.nDigits_small hs] at hu; omega
    ·rw [Lib.nDigits_big hs] at hu
     rcases ih (u / 10) (by omega) with h5 | h5
     ·rw [Nat.pow_succ]; omega
     ·subst h5; left; omega
  rcases h4 9 n.toNat (by omega) with h5 | h5
  ·omega
  ·cases h5
def ldT (s : List UInt8) (x : Nt) : Int := if x.kd = 5 ∧ x.sp = s then x.n else 0
theorem ldT_nn {s : List UInt8} {x : Nt} (h : ntF x = 0) : 0 ≤ ldT s x := by
 unfold ldT
 split
 ·rename_i h1
  have := (ntF_ok h).2.2.1 h1.1
  omega
 ·omega
def ldK (l : List Nt) (ix : List Int) (s : List UInt8) : Nat → Int
 | 0 => 0
 | k + 1 => ldK l ix s k + match ix[k]? with
  | some i => (match l[i.toNat]? with | some x => ldT s x | none => 0)
  | none => 0
theorem ld_next {b : Bk} {k : Nat} {x : Nt} (h : BkOk b k) (hx : ntF x = 0) (s : List UInt8) : (mget (ntS b x).us s).getD 0 + (mget (ntS b x).lf s).getD 0 ≤ (mget b.us s).getD 0 + (mget b.lf s).getD 0 + ldT s x := by
 have hnn := ldT_nn (s := s) hx
 unfold ntS
 by_cases h1 : x.kd = 1
 ·rw [if_pos h1]; simp only; omega
 rw [if_neg h1]
 by_cases h2 : x.kd = 2
 ·rw [if_pos h2]; simp only; omega
 rw [if_neg h2]
 by_cases h3 : x.kd = 3
 ·rw [if_pos h3]; simp only; omega
 rw [if_neg h3]
 by_cases h4 : x.kd = 4
 ·rw [if_pos h4]; simp only; omega
 rw [if_neg h4]
 by_cases h5 : x.kd = 5
 ·rw [if_pos h5]
  simp only
  rw [zX]
  have hl := h.l s
  split
  ·rename_i hs
   subst hs
   unfold ldT
   rw [if_pos ⟨h5, rfl⟩]
   simp only [Option.getD_some]
   omega
  ·omega
 rw [if_neg h5]
 by_cases h6 : x.kd = 6
 ·rw [if_pos h6]
  simp only
  rw [zX, zX]
  split
  ·rename_i hs
   rw [← hs]
   simp only [Option.getD_some]
   omega
  ·omega
 rw [if_neg h6]
 omega
theorem ld_bkK {l : List Nt} (hl : ∀ x ∈ l, ntF x = 0) (ix : List Int) (s : List UInt8) : ∀ k, (mget (bkK l ix k).1.us s).getD 0 + (mget (bkK l ix k).1.lf s).getD 0 ≤ ldK l ix s k
 | 0 => by simp [bkK, bk0, mget, ldK]
 | k + 1 => by
  have h := ld_bkK hl ix s k
  rw [bkK, ldK]
  cases hi : ix[k]? with
  | none => simp only; omega
  | some i =>
   simp only
   cases hx : l[i.toNat]? with
   | none => simp only; omega
   | some x =>
    simp only
    have hxn := hl x (List.mem_of_getElem? hx)
    unfold bkStep
    split
    ·have := ldT_nn (s := s) hxn; simp only; omega
    ·have := ld_next (bkK_ok hl ix k) hxn s; simp only; omega
def ldG (l : List Nt) (s : List UInt8) (i : Int) : Int := match l[i.toNat]? with | some x => ldT s x | none => 0
theorem ldK_sum (l : List Nt) (ix : List Int) (s : List UInt8) : ∀ k, ldK l ix s k = ((ix.take k).map (ldG l s)).sum
 | 0 => rfl
 | k + 1 => by
  rw [ldK, ldK_sum l ix s k, List.take_add_one, List.map_append, List.sum_append_int]
  cases ix[k]? with
  | none => simp
  | some i => simp [ldG]
theorem zZ3 {f : Nat → Int} {p : Nat → Bool} : ∀ L : List Nat, (∀ i ∈ L, 0 ≤ f i) → ((L.filter p).map f).sum ≤ (L.map f).sum
 | [], _ => Int.le_refl _
 | x :: L, h => by
  have h1 := zZ3 (p := p) L fun i hi => h i (List.mem_cons_of_mem _ hi)
  have h2 := h x List.mem_cons_self
  rw [List.filter_cons]
  split
  ·simp only [List.map_cons, List.sum_cons]; omega
  ·simp only [List.map_cons, List.sum_cons]; omega
def ldS (s : List UInt8) (l : List Nt) : Int := (l.map (ldT s)).sum
theorem range_ld (l : List Nt) (s : List UInt8) : ((List.range l.length).map fun i : Nat => ldG l s (i : Int)) = l.map (ldT s) := by
 refine List.ext_getElem (by simp) fun i h1 h2 => ?_
 simp only [List.length_map, List.length_range] at h1
 simp [ldG, List.getElem?_eq_getElem h1]
theorem used_le {l : List Nt} (at_ : Int) (h : chkN l = 0) (s : List UInt8) : 0 ≤ (mget (bksF l (cntP at_ l)).1.us s).getD 0 ∧ (mget (bksF l (cntP at_ l)).1.us s).getD 0 ≤ ldS s l := by
 have hn := (zp1 h).2
 have h1 := ld_bkK hn (cntP at_ l) s (cntP at_ l).length
 have hok := bksF_ok at_ h
 have h2 := (hok.l s).1
 have h3 := (hok.u s).1
 refine ⟨h3, ?_⟩
 rw [ldK_sum, List.take_length, cntP_right h, List.map_map] at h1
 have h4 := zZ3 (f := fun i : Nat => ldG l s (i : Int)) (p := fun i => cR at_ (l.drop i)) (List.range l.length) fun i hi => by
  unfold ldG
  split
  ·rename_i x hx; exact ldT_nn (hn x (List.mem_of_getElem? hx))
  ·exact Int.le_refl _
 rw [range_ld] at h4
 unfold ldS
 unfold bksF at h2 ⊢
 rw [cntP_right h] at h2 ⊢
 have h1' : (mget (bkK l (((List.range l.length).filter fun i => cR at_ (l.drop i)).map fun i : Nat => (i : Int)) (((List.range l.length).filter fun i => cR at_ (l.drop i)).map fun i : Nat => (i : Int)).length).1.us s).getD 0 + (mget (bkK l (((List.range l.length).filter fun i => cR at_ (l.drop i)).map fun i : Nat => (i : Int)) (((List.range l.length).filter fun i => cR at_ (l.drop i)).map fun i : Nat => (i : Int)).length).1.lf s).getD 0 ≤ (((List.range l.length).filter fun i => cR at_ (l.drop i)).map fun i : Nat => ldG l s (i : Int)).sum := h1
 omega
structure SpV (sp : List (Nat × List UInt8 × List UInt8)) : Prop where
 v : ∀ e ∈ sp, e.2.2 = [115] ∨ e.2.2 = [116]
 nd : (sp.map (·.2.2)).Nodup
theorem mset_vals {ck : Nat} {a v : List UInt8} : ∀ {l : List (Nat × List UInt8 × List UInt8)}, (l.map (·.2.2)).Nodup → v ∉ l.map (·.2.2) → ((mset ck a v l).map (·.2.2)).Nodup ∧ ∀ w, w ∈ (mset ck a v l).map (·.2.2) → w = v ∨ w ∈ l.map (·.2.2)
 | [], _, _ => by simp [mset]
 | e :: l, hn, hv => by
  rw [List.map_cons, List.nodup_cons] at hn
  simp only [List.map_cons, List.mem_cons, not_or] at hv
  simp only [mset]
  split
  ·rename_i he
   refine ⟨by rw [List.map_cons, List.nodup_cons]; exact ⟨hv.2, hn.2⟩, fun w hw => ?_⟩
   simp only [List.map_cons, List.mem_cons] at hw ⊢
   rcases hw with hw | hw
   ·exact .inl hw
   ·exact .inr (.inr hw)
  ·obtain ⟨h1, h2⟩ := mset_vals (ck := ck) (a := a) hn.2 hv.2
   refine ⟨?_, fun w hw => ?_⟩
   ·rw [List.map_cons, List.nodup_cons]
    refine ⟨fun h => ?_, h1⟩
    rcases h2 _ h with h3 | h3
    ·exact hv.1 h3.symm
    ·exact hn.1 h3
   ·simp only [List.map_cons, List.mem_cons] at hw ⊢
    rcases hw with hw | hw
    ·exact .inr (.inl hw)
    ·rcases h2 _ hw with h3 | h3
     ·exact .inl h3
     ·exact .inr (.inr h3)
abbrev spS : List (List UInt8) := [[], [115], [116], [66]]
theorem SpV.next {b : Bk} {x : Nt} (h : SpV b.sp) (hx : ntF x = 0) (hr : rfE b x = 0) (hs : x.sp ∈ spS) : SpV (ntS b x).sp := by
 unfold ntS
 unfold rfE at hr
 by_cases h1 : x.kd = 1
 ·rw [if_pos h1]; exact h
 rw [if_neg h1] at hr ⊢
 by_cases h2 : x.kd = 2
 ·rw [if_pos h2]; exact h
 rw [if_neg h2] at hr ⊢
 by_cases h3 : x.kd = 3
 ·rw [if_pos h3]; exact h
 rw [if_neg h3] at hr ⊢
 by_cases h4 : x.kd = 4
 ·rw [if_pos h4]; exact h
 rw [if_neg h4] at hr ⊢
 by_cases h5 : x.kd = 5
 ·rw [if_pos h5] at hr ⊢
  simp only
  have hk := ((ntF_ok hx).2.2.1 h5).1
  have hv : x.sp = [115] ∨ x.sp = [116] := by
   simp only [spS, List.mem_cons, List.not_mem_nil, or_false] at hs
   rcases hs with hs | hs | hs | hs
   ·rw [hs] at hk; exact absurd hk (by decide)
   ·exact .inl hs
   ·exact .inr hs
   ·rw [hs] at hk; exact absurd hk (by decide)
  have hnu : x.sp ∉ b.sp.map (·.2.2) := fun hm => by
   obtain ⟨e, he, h6⟩ := List.mem_map.1 hm
   have : inUse b.sp x.sp = true := by unfold inUse; rw [List.any_eq_true]; exact ⟨e, he, by simpa using h6⟩
   rw [this] at hr
   cases hr
  obtain ⟨g1, g2⟩ := mset_vals (ck := b.spk) (a := x.pr) h.nd hnu
  refine ⟨fun e he => ?_, g1⟩
  rcases g2 _ (List.mem_map_of_mem (f := fun e : Nat × List UInt8 × List UInt8 => e.2.2) he) with h6 | h6
  ·rw [h6]; exact hv
  ·obtain ⟨e2, h7, h8⟩ := List.mem_map.1 h6
   rw [← h8]
   exact h.v e2 h7
 rw [if_neg h5] at hr ⊢
 by_cases h6 : x.kd = 6
 ·rw [if_pos h6]; exact h
 rw [if_neg h6]; exact h
theorem bkK_spV {l : List Nt} (hl : ∀ x ∈ l, ntF x = 0) (hs : ∀ x ∈ l, x.sp ∈ spS) (ix : List Int) : ∀ k, SpV (bkK l ix k).1.sp
 | 0 => ⟨fun e h => (by cases h), List.nodup_nil⟩
 | k + 1 => by
  have h := bkK_spV hl hs ix k
  rw [bkK]
  split
  ·split
   ·rename_i x hx
    unfold bkStep
    split
    ·exact h
    ·rename_i hr
     exact h.next (hl x (List.mem_of_getElem? hx)) (Decidable.not_not.1 hr) (hs x (List.mem_of_getElem? hx))
   ·exact h
  ·exact h
theorem bksF_spV {l : List Nt} (at_ : Int) (h : chkN l = 0) (hs : ∀ x ∈ l, x.sp ∈ spS) : SpV (bksF l (cntP at_ l)).1.sp := bkK_spV (zp1 h).2 hs _ _
theorem two_le {a b : List UInt8} : ∀ {L : List (List UInt8)}, L.Nodup → (∀ x ∈ L, x = a ∨ x = b) → L.length ≤ 2
 | [], _, _ => by simp
 | [_], _, _ => by simp
 | [_, _], _, _ => by simp
 | x :: y :: z :: L, hn, h => by
  simp only [List.nodup_cons, List.mem_cons, not_or] at hn
  obtain ⟨⟨h1, h2, _⟩, ⟨h3, _⟩, _⟩ := hn
  rcases h x (by simp) with hx | hx <;> rcases h y (by simp) with hy | hy <;> rcases h z (by simp) with hz | hz <;> subst hx hy hz <;> first | exact absurd rfl h1 | exact absurd rfl h2 | exact absurd rfl h3
theorem fil_facts {l : List Nt} {at_ : Int} (h0 : askF l at_ = 0) (hs : ∀ x ∈ l, x.sp ∈ spS) {r : List Pr} (hr : ∃ m0 ck, MapOk m0 ck ∧ (m0.map (·.2)).Perm ((bksF l (cntP at_ l)).1.sp.map (flPr (bksF l (cntP at_ l)).1.lf)) ∧ r = srtP m0) : r.length ≤ 2 ∧ (∀ y ∈ r, ∃ c lv, (c = 115 ∨ c = 116) ∧ 0 ≤ lv ∧ lv ≤ 100000000 ∧ y.2 = [c] ++ 32 :: Lib.itoa lv) ∧ (r.map fun y => y.2.take 1).Nodup := by
 obtain ⟨m0, ck, h1, h2, rfl⟩ := hr
 have hp := (srtP_perm h1.nk).trans h2
 have hc := zA1 h0
 have hok := bksF_ok at_ hc
 obtain ⟨hv, hnd⟩ := bksF_spV at_ hc hs
 have hlen : (bksF l (cntP at_ l)).1.sp.length ≤ 2 := by
  have := two_le hnd (a := [115]) (b := [116]) fun x hx => by obtain ⟨e, he, rfl⟩ := List.mem_map.1 hx; exact hv e he
  simpa using this
 refine ⟨by rw [hp.length_eq, List.length_map]; exact hlen, fun y hy => ?_, ?_⟩
 ·obtain ⟨e, he, rfl⟩ := List.mem_map.1 (hp.subset hy)
  have hl := hok.l e.2.2
  rcases hv e he with h3 | h3
  ·exact ⟨115, _, .inl rfl, hl.1, hl.2, by simp [flPr, h3]⟩
  ·exact ⟨116, _, .inr rfl, hl.1, hl.2, by simp [flPr, h3]⟩
 ·refine ((hp.map _).nodup_iff).2 ?_
  rw [List.map_map]
  have : ((bksF l (cntP at_ l)).1.sp.map ((fun y : Pr => y.2.take 1) ∘ flPr (bksF l (cntP at_ l)).1.lf)) = (bksF l (cntP at_ l)).1.sp.map (·.2.2) := List.map_congr_left fun e he => by
   rcases hv e he with h3 | h3 <;> simp [flPr, h3]
  rw [this]
  exact hnd
theorem someF_mem {zs : List Int} {a : Int} {vals : List (List UInt8)} (h : vals ≠ []) (hl : vals.length ≤ 1000) : someF zs a vals ∈ vals := by
 have hp : 0 < vals.length := List.length_pos_iff.2 h
 have := nextF_bd (zs := zs) (a := a) (n := vals.length) (by omega) (by omega)
 unfold someF
 rw [List.getD_eq_getElem?_getD, List.getElem?_eq_getElem (by omega)]
 exact List.getElem_mem _
theorem kind_sp {zs : List Int} {x : Nt} {ly : List UInt8 → Int} {a : Int} (h : x.sp ∈ spS) : (kindF zs x ly a).1.sp ∈ spS := by
 unfold kindF
 split
 ·exact h
 split
 ·split <;> exact h
 split
 ·have := someF_mem (zs := zs) (a := a) (vals := [[115], [116]]) (by simp) (by simp)
  simp only [List.mem_cons, List.not_mem_nil, or_false] at this
  simp only [spS, List.mem_cons, List.not_mem_nil, or_false]
  rcases this with h | h
  ·exact .inr (.inl h)
  ·exact .inr (.inr (.inl h))
 split
 ·exact h
 split <;> exact h
theorem odd_sp {zs : List Int} {x : Nt} {a : Int} (h : x.sp ∈ spS) : (oddNF zs x a).1.sp ∈ spS := by
 unfold oddNF
 split
 ·split
  ·exact h
  split
  ·exact h
  split
  ·have := someF_mem (zs := zs) (a := a + 1 + 1 + 1) (vals := [[], [115], [66]]) (by simp) (by simp)
   simp only [List.mem_cons, List.not_mem_nil, or_false] at this
   simp only [spS, List.mem_cons, List.not_mem_nil, or_false]
   rcases this with h | h | h
   ·exact .inl h
   ·exact .inr (.inl h)
   ·exact .inr (.inr (.inr h))
  ·exact h
 ·exact h
theorem gens_sp (zs : List Int) (a : Int) : ∀ k, ∀ x ∈ (gensF zs a k).1, x.sp ∈ spS
 | 0, x, h => by cases h
 | k + 1, x, h => by
  rw [gensF] at h
  rcases List.mem_append.1 h with h | h
  ·exact gens_sp zs a k x h
  ·rw [List.mem_singleton] at h
   subst h
   unfold noteF
   exact odd_sp (kind_sp (by simp [firstF, spS]))
theorem notes_sp {zs : List Int} {a : Int} {k : Nat} : ∀ x ∈ notesF zs a k, x.sp ∈ spS := fun x hx => gens_sp zs a k x (insF_mem _ _ hx)
theorem rgt_sp {zs : List Int} {many : Nat} : ∀ (k : Nat) (a : Int), ∀ x ∈ (rgtF zs many k a).1, x.sp ∈ spS
 | 0, a, x, h => by cases h
 | k + 1, a, x, h => by
  rw [rgtF] at h
  split at h
  ·exact notes_sp x h
  ·exact rgt_sp k _ x h
end Go.Proofs.YtcdeonjdipcgpaaGreatDoor
-- NEWM
namespace Go.Proofs.YtcdeonjdipcgpaaGreatDoor
open Go Go.RowKit
set_option maxRecDepth 100000
theorem mset_fresh {β : Type} {m0 : List (Nat × List UInt8 × β)} {k : List UInt8} {v : β} (h : MapOk m0 m0.length) (hk : k ∉ m0.map (·.2.1)) : mset m0.length k v m0 = m0 ++ [(m0.length, k, v)] ∧ mclk m0.length k m0 = m0.length + 1 ∧ MapOk (m0 ++ [(m0.length, k, v)]) (m0.length + 1) := by
 have hn := mget_none.2 hk
 have h1 : mset m0.length k v m0 = m0 ++ [(m0.length, k, v)] := zw2 hn
 have h2 : mclk m0.length k m0 = m0.length + 1 := by rw [mclk, hn]; rfl
 have h3 := h.set k v
 rw [h1, h2] at h3
 exact ⟨h1, h2, h3⟩
set_option maxHeartbeats 2000000 in
theorem jobsP_v (hSK : SortedKeysOk) (v : Value) (l : List Nt) (at_ : Int) (hl : l.length ≤ 1000000) (hs : ∀ x ∈ l, NtS x) : ACalls Tryz.prog 13 [.c (.r v (noRs l)), .c (I at_)] [] fun u H => ∃ (r : List Pr) (co : Nat), ((askF l at_ ≠ 0 ∧ r = []) ∨ (askF l at_ = 0 ∧ ∃ m0 ck, MapOk m0 ck ∧ (m0.map (·.2)).Perm ((bksF l (cntP at_ l)).1.js.filterMap stPr) ∧ r = srtP m0)) ∧ r.length ≤ 2000 ∧ r.length ≤ co ∧ u = .t [.o 0 0 r.length co, .c (I (askF l at_))] ∧ H = [.arr 56 2 co (prRs r)] := by
 by_cases h0 : askF l at_ = 0
 ·have hjl := bksF_js (at_ := at_) (zp1 (zA1 h0)).1
  have hnm := bksF_nm (at_ := at_) (zp1 (zA1 h0)).2
  have hspl := bksF_sp (at_ := at_) (zp1 (zA1 h0)).1 (zp1 (zA1 h0)).2
  have hpx : PoolIx 8 := ⟨trivial⟩
  rw [h0]
  refine zg (N := 39) Tryz.func13 rfl rfl (by simp) fun E hE => ?_
  refine WA ?_
  refine WR ?_
  refine zh rfl (zc false (fun _ => zm3 v l at_ hl hs h0) rfl .fn rfl (by decide) (by kernel_rfl) rfl (fun _ => C0 rfl) (by simp)) ?_
  rintro _ _ ⟨_, _, _, ⟨rfl, b, R1, R2, bl, rl, rk, c1, c2, hbf, hB, hbl, hrl, hrm, h1l, h2l, hc1, hc2, rfl⟩, hF, hH⟩
  (refine NST hF hH ?_; clear hF hH; rintro rfl rfl)
  refine WE ?_
  refine WA ?_
  refine za rfl ?_
  refine ZZ ?_
  rw [hbf] at hjl hnm hspl
  simp only at hjl hnm hspl
  have hJ := hB.js
  have hok : MapOk (jlF 0 b.js bl) b.js.length := jlF_ok hJ hbl
  have hjlen : (jlF 0 b.js bl).length = b.js.length := by have := congrArg List.length (jlF_births (i := 0) hbl); rw [List.length_map, List.length_range'] at this; exact this
  refine ZR ?_
  refine zh rfl (zE1 rfl rfl (by decide)) ?_
  rintro _ _ ⟨rfl, rfl⟩
  refine WE ?_
  refine ZR ?_
  iterate 4 refine WX1 ?_
  refine zh rfl (ef_range (ke := encSt) (ve := encPt) (l := jlF 0 b.js bl) (ck := b.js.length) rfl rfl (by decide) Tryz.underlying98 rfl rfl) ?_
  rintro _ _ ⟨rfl, rfl⟩
  refine WE ?_
  refine zP (fun m F H => ∃ (seen : List Nat) (m0 : List (Nat × List UInt8 × List UInt8)), unsG (jlF 0 b.js bl) seen = m ∧ m + seen.length ≤ b.js.length ∧ seen.Nodup ∧ (∀ k ∈ seen, k < b.js.length) ∧ m0.map (·.2) = fmJ stPr b.js seen ∧ MapOk m0 m0.length ∧ F = [(8, .mp 9), (25, .p 10 0 0)] ∧ H = [.box [.mp 1, .mp 2, .mp 3, .mp 4, .mp 5, .o 6 0 (R1).length c1, .o 7 0 (R2).length c2], mSP (jlF 0 b.js bl) b.js.length, mSS rl rk, mSS b.sp b.spk, mSI b.lf b.lfk, mSI b.us b.usk, .arr 3 1 c1 (nR (R1)), .arr 32 1 c2 (nR (R2)), .pool (plF jbP b.js bl), mSS m0 m0.length, .itr 1 b.js.length seen b.js.length]) ?_ ?_
  ·refine zo [some 0, some 1, some 2, some 3, some 4, some 5, some 6, some 7, some 8, some 9, some 10] (fun _ => [(8, .mp 9), (25, .p 10 0 0)]) (fun _ => [.box [.mp 1, .mp 2, .mp 3, .mp 4, .mp 5, .o 6 0 (R1).length c1, .o 7 0 (R2).length c2], mSP (jlF 0 b.js bl) b.js.length, mSS rl rk, mSS b.sp b.spk, mSI b.lf b.lfk, mSI b.us b.usk, .arr 3 1 c1 (nR (R1)), .arr 32 1 c2 (nR (R2)), .pool (plF jbP b.js bl), mSS [] 0, .itr 1 b.js.length [] b.js.length]) (by decide) (ZNL hE) ZCF ZCH (fun _ => ?_)
   exact ⟨_, [], [], rfl, by have := unsG_le (jlF 0 b.js bl) []; rw [hjlen] at this; exact this, List.nodup_nil, fun k h => (by cases h), rfl, .nil, rfl, rfl⟩
  rintro m F H ⟨seen, m0, hm, hml, hnd, hsl, hout, hm0, rfl, rfl⟩
  have hol : m0.length ≤ 2000 := by have h1 := congrArg List.length hout; rw [List.length_map] at h1; have := fmJ_len stPr b.js seen; omega
  refine ZR ?_
  refine zh rfl (ef_next (ke := encSt) (ve := encPt) (l := jlF 0 b.js bl) rfl rfl (by decide) rfl rfl rfl hok.hb (Nat.le_refl _)) ?_
  rintro _ _ (⟨⟨eb, ek, es⟩, he, hne, rfl, rfl⟩ | ⟨hall, rfl, rfl⟩)
  all_goals (refine WE ?_)
  ·refine zb rfl ?_
   obtain ⟨k, j, b0, hj, hb, heq⟩ := jlF_mem he
   injection heq with q1 q2
   injection q2 with q2 q3
   subst q1; subst q2; subst q3
   have hlt : unsG (jlF 0 b.js bl) (seen ++ [0 + k]) < unsG (jlF 0 b.js bl) seen := unsG_lt he hne
   have hin : InPool k b0 (plF jbP b.js bl) [T (stW j.st), I j.ly.length, I j.all, I j.beg, I (j.ly.getLast?.getD 0), I j.en] := ⟨plF_get hj hb⟩
   have hkm : j.nm ∉ m0.map (·.2.1) := fun h => by
    obtain ⟨e, hem, hen⟩ := List.mem_map.1 h
    have h2 : e.2 ∈ m0.map (·.2) := List.mem_map_of_mem (f := fun e : Nat × List UInt8 × List UInt8 => e.2) hem
    rw [hout] at h2
    obtain ⟨q, hq, hq2⟩ := List.mem_filterMap.1 h2
    cases hjq : b.js[q]? with
    | none => rw [hjq] at hq2; cases hq2
    | some j2 =>
     rw [hjq] at hq2
     simp only [Option.bind_some, stPr, Option.some.injEq] at hq2
     have hn2 : j2.nm = j.nm := by rw [← hen, ← hq2]
     have := hJ.nm q k j2 j hjq hj hn2
     subst this
     exact hne (by simpa using hq)
   obtain ⟨g1, g2, g3⟩ := mset_fresh (v := stW j.st) hm0 hkm
   have hnd2 : (seen ++ [0 + k]).Nodup := List.nodup_append.2 ⟨hnd, by simp, fun a ha b hb h => by simp at hb; subst hb; subst h; exact hne (by simpa using ha)⟩
   have hsl2 : ∀ q ∈ seen ++ [0 + k], q < b.js.length := fun q hq => by
    rcases List.mem_append.1 hq with hq | hq
    ·exact hsl q hq
    ·rw [List.mem_singleton, Nat.zero_add] at hq; subst hq; exact (List.getElem?_eq_some_iff.1 hj).1
   have hout2 : (m0 ++ [(m0.length, j.nm, stW j.st)]).map (·.2) = fmJ stPr b.js (seen ++ [0 + k]) := by rw [fmJ_some (f := stPr) hj rfl, List.map_append, hout]; rfl
   refine ZR ?_
   refine ZA (rd_entry (ke := encSt) (ve := encPt) (e := (0 + k, j.nm, ptrV b0)) rfl rfl rfl rfl he hok.nb) ?_
   refine WE ?_
   refine ZR ?_
   iterate 6 refine WX1 ?_
   refine zh rfl (ef_muSS (k := j.nm) (l := m0) (z := (stW j.st)) rfl rfl rfl rfl rfl rfl) ?_
   rintro _ _ ⟨rfl, rfl⟩
   refine WE ?_
   rw [g1, g2]
   refine zo [some 0, some 1, some 2, some 3, some 4, some 5, some 6, some 7, some 8, some 9, some 10] (fun _ => [(8, .mp 9), (25, .p 10 0 0)]) (fun _ => [.box [.mp 1, .mp 2, .mp 3, .mp 4, .mp 5, .o 6 0 (R1).length c1, .o 7 0 (R2).length c2], mSP (jlF 0 b.js bl) b.js.length, mSS rl rk, mSS b.sp b.spk, mSI b.lf b.lfk, mSI b.us b.usk, .arr 3 1 c1 (nR (R1)), .arr 32 1 c2 (nR (R2)), .pool (plF jbP b.js bl), mSS (m0 ++ [(m0.length, j.nm, stW j.st)]) (m0 ++ [(m0.length, j.nm, stW j.st)]).length, .itr 1 b.js.length (seen ++ [0 + k]) b.js.length]) (by decide) (ZNL hE) ZCF (by rw [List.length_append, List.length_singleton]; exact ZCH) (fun _ => ?_)
   exact ⟨_, by rw [← hm]; exact hlt, seen ++ [0 + k], _, rfl, by rw [List.length_append, List.length_singleton]; omega, hnd2, hsl2, hout2, by rw [List.length_append, List.length_singleton]; exact g3, rfl, rfl⟩
  ·refine za rfl ?_
   have hp : (m0.map (·.2)).Perm (b.js.filterMap stPr) := by
    rw [hout]
    refine fmJ_all hnd hsl fun k hk => ?_
    obtain ⟨b0, hb0⟩ : ∃ b0, bl[k]? = some b0 := ⟨_, List.getElem?_eq_getElem (by rw [hbl]; exact hk)⟩
    simpa using hall _ (jlF_in (i := 0) (List.getElem?_eq_getElem hk) hb0)
   have hkl : ∀ e ∈ m0, e.2.1.length ≤ 1000000 := fun e he => by
    have h2 : e.2 ∈ m0.map (·.2) := List.mem_map_of_mem (f := (·.2)) he
    obtain ⟨j, hj, hj2⟩ := List.mem_filterMap.1 (hp.subset h2)
    simp only [stPr, Option.some.injEq] at hj2
    have := (hnm.js j hj).2
    rw [← hj2]
    simp only
    omega
   have hsl : (srtP m0).length = m0.length := by simp [srtP, za4]
   refine ZZ ?_
   refine WR ?_
   refine zh rfl (zo1 [9] (fun _ => [mSS m0 m0.length]) false (fun _ => pairs_v hSK m0 m0.length hm0 (by omega) hkl) rfl .fn rfl (by decide) (by kernel_rfl) rfl ZCH (by decide) ZCH (by simp)) ?_
   rintro F1 H1 ⟨_, _, _, _, ⟨co, cs, hco, rfl, rfl⟩, hF, hH⟩
   rw [zT] at hF; (refine NSU hF hH ?_; clear hF hH; rintro rfl rfl)
   refine WE ?_
   exact zx1 (us := [.o 13 0 m0.length co, .c (I 0)]) [some 13] (fun _ => .t [.o 0 0 m0.length co, .c (I 0)]) (fun _ => [.arr 56 2 co (prRs (srtP m0))]) (.tmp rfl (.tmp rfl .nil)) (by decide) (ZNK rfl) (fun _ => .tL (.cons (.o rfl rfl) (.cons (.c rfl) .nil))) ZCH (fun _ => ⟨srtP m0, co, .inr ⟨rfl, m0, m0.length, hm0, by rw [hbf]; exact hp, rfl⟩, by omega, by omega, by rw [hsl], rfl⟩)
 ·refine zg (N := 39) Tryz.func13 rfl rfl (by simp) fun E hE => ?_
  refine WA ?_
  refine WR ?_
  refine zh rfl (zc false (fun _ => zn3 v l at_ hl hs h0) rfl .fn rfl (by decide) (by kernel_rfl) rfl (fun _ => C0 rfl) (by simp)) ?_
  rintro _ _ ⟨_, _, _, ⟨rfl, rfl⟩, hF, hH⟩
  (refine NST hF hH ?_; clear hF hH; rintro rfl rfl)
  refine WE ?_
  generalize askF l at_ = e at h0 ⊢
  refine WA ?_
  refine zb rfl ?_
  refine WA ?_
  exact zx1 (us := [.c (.r (.slice none 0 0) []), .c (I e)]) [none] (fun _ => .t [.o 0 0 0 0, .c (I e)]) (fun _ => [.arr 56 2 0 []]) (.tmp rfl (.tmp rfl .nil)) (by decide) (ZNK rfl) (fun _ => .tL (.cons (.nil rfl) (.cons (.c rfl) .nil))) ZCH (fun _ => ⟨[], 0, .inl ⟨h0, rfl⟩, Nat.zero_le _, Nat.le_refl _, rfl, rfl⟩)
theorem inj_of_nodup {α β : Type} {f : α → β} : ∀ {l : List α} {a b : α}, (l.map f).Nodup → a ∈ l → b ∈ l → f a = f b → a = b
 | [], a, b, _, h, _, _ => by cases h
 | x :: l, a, b, hn, ha, hb, he => by
  rw [List.map_cons, List.nodup_cons] at hn
  rcases List.mem_cons.1 ha with h1 | h1
  ·rcases List.mem_cons.1 hb with h2 | h2
   ·rw [h1, h2]
   ·exact absurd (List.mem_map_of_mem (f := f) h2) (by rw [← he, h1]; exact hn.1)
  ·rcases List.mem_cons.1 hb with h2 | h2
   ·exact absurd (List.mem_map_of_mem (f := f) h1) (by rw [he, h2]; exact hn.1)
   ·exact inj_of_nodup hn.2 h1 h2 he
set_option maxHeartbeats 2000000 in
theorem filamentP_v (hSK : SortedKeysOk) (v : Value) (l : List Nt) (at_ : Int) (hl : l.length ≤ 1000000) (hs : ∀ x ∈ l, NtS x) : ACallsW TabX false Tryz.prog 15 [.c (.r v (noRs l)), .c (I at_)] [] fun u H => ∃ (r : List Pr) (co : Nat), ((askF l at_ ≠ 0 ∧ r = []) ∨ (askF l at_ = 0 ∧ ∃ m0 ck, MapOk m0 ck ∧ (m0.map (·.2)).Perm ((bksF l (cntP at_ l)).1.sp.map (flPr (bksF l (cntP at_ l)).1.lf)) ∧ r = srtP m0)) ∧ r.length ≤ 2000 ∧ r.length ≤ co ∧ u = .t [.o 0 0 r.length co, .c (I (askF l at_))] ∧ H = [.arr 56 2 co (prRs r)] := by
 by_cases h0 : askF l at_ = 0
 ·have hjl := bksF_js (at_ := at_) (zp1 (zA1 h0)).1
  have hnm := bksF_nm (at_ := at_) (zp1 (zA1 h0)).2
  have hspl := bksF_sp (at_ := at_) (zp1 (zA1 h0)).1 (zp1 (zA1 h0)).2
  rw [h0]
  refine acallsW_of tabX_stp false (N := 45) Tryz.func15 rfl rfl (by simp) fun E hE hP hX => ?_
  refine WA ?_
  refine WR ?_
  refine zh rfl (zc false (fun _ => zm3 v l at_ hl hs h0) rfl .fn rfl (by decide) (by kernel_rfl) rfl (fun _ => C0 rfl) (by simp)) ?_
  rintro _ _ ⟨_, _, _, ⟨rfl, b, R1, R2, bl, rl, rk, c1, c2, hbf, hB, hbl, hrl, hrm, h1l, h2l, hc1, hc2, rfl⟩, hF, hH⟩
  (refine NST hF hH ?_; clear hF hH; rintro rfl rfl)
  refine WE ?_
  refine WA ?_
  refine za rfl ?_
  refine ZZ ?_
  rw [hbf] at hjl hnm hspl
  simp only at hjl hnm hspl
  have hok := hB.sp
  refine ZR ?_
  refine zh rfl (zE1 rfl rfl (by decide)) ?_
  rintro _ _ ⟨rfl, rfl⟩
  refine WE ?_
  refine ZR ?_
  iterate 4 refine WX1 ?_
  refine zh rfl (ef_range (ke := encSt) (ve := encSt) (l := b.sp) (ck := b.spk) rfl rfl (by decide) Tryz.underlying99 rfl rfl) ?_
  rintro _ _ ⟨rfl, rfl⟩
  refine WE ?_
  refine zP (fun m F H => ∃ (TS m0 : List (Nat × List UInt8 × List UInt8)), unsG b.sp (TS.map (·.1)) = m ∧ m + TS.length ≤ b.sp.length ∧ (TS.map (·.1)).Nodup ∧ (∀ e ∈ TS, e ∈ b.sp) ∧ m0.map (·.2) = TS.map (flPr b.lf) ∧ MapOk m0 m0.length ∧ F = [(6, .p 0 0 0), (8, .mp 9), (25, .p 10 0 0)] ∧ H = [.box [.mp 1, .mp 2, .mp 3, .mp 4, .mp 5, .o 6 0 (R1).length c1, .o 7 0 (R2).length c2], mSP (jlF 0 b.js bl) b.js.length, mSS rl rk, mSS b.sp b.spk, mSI b.lf b.lfk, mSI b.us b.usk, .arr 3 1 c1 (nR (R1)), .arr 32 1 c2 (nR (R2)), .pool (plF jbP b.js bl), mSS m0 m0.length, .itr 3 b.spk (TS.map (·.1)) b.spk]) ?_ ?_
  ·refine zo [some 0, some 1, some 2, some 3, some 4, some 5, some 6, some 7, some 8, some 9, some 10] (fun _ => [(6, .p 0 0 0), (8, .mp 9), (25, .p 10 0 0)]) (fun _ => [.box [.mp 1, .mp 2, .mp 3, .mp 4, .mp 5, .o 6 0 (R1).length c1, .o 7 0 (R2).length c2], mSP (jlF 0 b.js bl) b.js.length, mSS rl rk, mSS b.sp b.spk, mSI b.lf b.lfk, mSI b.us b.usk, .arr 3 1 c1 (nR (R1)), .arr 32 1 c2 (nR (R2)), .pool (plF jbP b.js bl), mSS [] 0, .itr 3 b.spk [] b.spk]) (by decide) (ZNL hE) ZCF ZCH (fun _ => ?_)
   exact ⟨_, [], [], rfl, unsG_le b.sp [], List.nodup_nil, fun e h => (by cases h), rfl, .nil, rfl, rfl⟩
  rintro m F H ⟨TS, m0, hm, hml, hnd, hsl, hout, hm0, rfl, rfl⟩
  have hol : m0.length ≤ 2000 := by have h1 := congrArg List.length hout; rw [List.length_map, List.length_map] at h1; omega
  refine ZR ?_
  refine zh rfl (ef_next (ke := encSt) (ve := encSt) (l := b.sp) rfl rfl (by decide) rfl rfl rfl hok.hb (Nat.le_refl _)) ?_
  rintro _ _ (⟨⟨eb, ek, es⟩, he, hne, rfl, rfl⟩ | ⟨hall, rfl, rfl⟩)
  all_goals (refine WE ?_)
  ·refine zb rfl ?_
   have hlt : unsG b.sp (TS.map (·.1) ++ [eb]) < unsG b.sp (TS.map (·.1)) := unsG_lt he hne
   have hel := hspl.2 _ he
   simp only at hel
   obtain ⟨lv, hlv⟩ : ∃ q, (mget b.lf es).getD 0 = q := ⟨_, rfl⟩
   have hlb := hB.l es
   rw [hlv] at hlb
   have hil := Lib.itoa_length_le lv (by omega) (by omega)
   have hkm : ek ∉ m0.map (·.2.1) := fun h => by
    obtain ⟨e, hem, hen⟩ := List.mem_map.1 h
    have h2 : e.2 ∈ m0.map (·.2) := List.mem_map_of_mem (f := fun e : Nat × List UInt8 × List UInt8 => e.2) hem
    rw [hout] at h2
    obtain ⟨t, ht, ht2⟩ := List.mem_map.1 h2
    have h3 : t.2.1 = ek := by rw [← hen, ← ht2]; rfl
    have h4 : t = (eb, ek, es) := inj_of_nodup (f := fun e : Nat × List UInt8 × List UInt8 => e.2.1) hok.nk (hsl t ht) he h3
    exact hne (by have := List.mem_map_of_mem (f := fun e : Nat × List UInt8 × List UInt8 => e.1) ht; rw [h4] at this; exact this)
   obtain ⟨g1, g2, g3⟩ := mset_fresh (v := es ++ [32] ++ Lib.itoa lv) hm0 hkm
   have hnd2 : ((TS ++ [(eb, ek, es)]).map (·.1)).Nodup := by
    rw [List.map_append]
    exact List.nodup_append.2 ⟨hnd, by simp, fun a ha b hb h => by simp at hb; subst hb; subst h; exact hne ha⟩
   have hsl2 : ∀ e ∈ TS ++ [(eb, ek, es)], e ∈ b.sp := fun e h => by
    rcases List.mem_append.1 h with h | h
    ·exact hsl e h
    ·rw [List.mem_singleton] at h; subst h; exact he
   have hout2 : List.map (fun e : Nat × List UInt8 × List UInt8 => e.2) (m0 ++ [(m0.length, ek, es ++ [32] ++ Lib.itoa lv)]) = (TS ++ [(eb, ek, es)]).map (flPr b.lf) := by rw [List.map_append, List.map_append, hout]; simp [flPr, hlv]
   refine ZR ?_
   refine ZA (rd_entry (ke := encSt) (ve := encSt) (e := (eb, ek, es)) rfl rfl rfl rfl he hok.nb) ?_
   refine WE ?_
   refine ZR ?_
   iterate 3 refine WX1 ?_
   refine ZA (rd_adds (a := es) (b := [32]) rfl Tryz.underlying9 rfl rfl (by simp; omega)) ?_
   iterate 5 refine WX1 ?_
   refine ZA (zI1 (k := es) (l := b.lf) hlv rfl rfl rfl rfl) ?_
   refine zh rfl (ef_call0W TabX (hX _ _) false (fun _ => itoa_v lv (by omega) (by omega)) rfl .fn rfl (by decide) (by kernel_rfl) rfl (fun _ => C0 rfl) (by simp)) ?_
   rintro _ _ ⟨_, _, _, ⟨rfl, rfl⟩, hF, hH⟩
   (refine NST hF hH ?_; clear hF hH; rintro rfl rfl)
   refine ZA (rd_adds (a := es ++ [32]) (b := Lib.itoa lv) rfl Tryz.underlying9 rfl rfl (by simp; omega)) ?_
   refine zh rfl (ef_muSS (k := ek) (l := m0) (z := (es ++ [32] ++ Lib.itoa lv)) rfl rfl rfl rfl rfl rfl) ?_
   rintro _ _ ⟨rfl, rfl⟩
   refine WE ?_
   rw [g1, g2]
   refine zo [some 0, some 1, some 2, some 3, some 4, some 5, some 6, some 7, some 8, some 9, some 10] (fun _ => [(6, .p 0 0 0), (8, .mp 9), (25, .p 10 0 0)]) (fun _ => [.box [.mp 1, .mp 2, .mp 3, .mp 4, .mp 5, .o 6 0 (R1).length c1, .o 7 0 (R2).length c2], mSP (jlF 0 b.js bl) b.js.length, mSS rl rk, mSS b.sp b.spk, mSI b.lf b.lfk, mSI b.us b.usk, .arr 3 1 c1 (nR (R1)), .arr 32 1 c2 (nR (R2)), .pool (plF jbP b.js bl), mSS (m0 ++ [(m0.length, ek, es ++ [32] ++ Lib.itoa lv)]) (m0 ++ [(m0.length, ek, es ++ [32] ++ Lib.itoa lv)]).length, .itr 3 b.spk ((TS ++ [(eb, ek, es)]).map (·.1)) b.spk]) (by decide) (ZNL hE) ZCF (by simp only [List.map_append, List.map_cons, List.map_nil, List.length_append, List.length_singleton]; exact ZCH) (fun _ => ?_)
   exact ⟨_, by rw [← hm]; exact hlt, TS ++ [(eb, ek, es)], _, by rw [List.map_append]; rfl, by rw [List.length_append, List.length_singleton]; omega, hnd2, hsl2, hout2, by rw [List.length_append, List.length_singleton]; exact g3, rfl, rfl⟩
  ·refine za rfl ?_
   have hp : (m0.map (·.2)).Perm (b.sp.map (flPr b.lf)) := by
    rw [hout]
    exact (visited_perm hok.nb rfl hnd hsl hall).map _
   have hkl : ∀ e ∈ m0, e.2.1.length ≤ 1000000 := fun e he => by
    have h2 : e.2 ∈ m0.map (·.2) := List.mem_map_of_mem (f := (·.2)) he
    obtain ⟨t, ht, ht2⟩ := List.mem_map.1 (hp.subset h2)
    have h3 := hnm.sp t ht
    have h4 : e.2.1 = t.2.1 := by rw [← ht2]; rfl
    rw [h4]
    omega
   have hsl : (srtP m0).length = m0.length := by simp [srtP, za4]
   refine ZZ ?_
   refine WR ?_
   refine zh rfl (zo1 [9] (fun _ => [mSS m0 m0.length]) false (fun _ => pairs_v hSK m0 m0.length hm0 (by omega) hkl) rfl .fn rfl (by decide) (by kernel_rfl) rfl ZCH (by decide) ZCH (by simp)) ?_
   rintro F1 H1 ⟨_, _, _, _, ⟨co, cs, hco, rfl, rfl⟩, hF, hH⟩
   rw [zT] at hF; (refine NSU hF hH ?_; clear hF hH; rintro rfl rfl)
   refine WE ?_
   exact zx1 (us := [.o 13 0 m0.length co, .c (I 0)]) [some 13] (fun _ => .t [.o 0 0 m0.length co, .c (I 0)]) (fun _ => [.arr 56 2 co (prRs (srtP m0))]) (.tmp rfl (.tmp rfl .nil)) (by decide) (ZNK rfl) (fun _ => .tL (.cons (.o rfl rfl) (.cons (.c rfl) .nil))) ZCH (fun _ => ⟨srtP m0, co, .inr ⟨rfl, m0, m0.length, hm0, by rw [hbf]; exact hp, rfl⟩, by omega, by omega, by rw [hsl], rfl⟩)
 ·refine acallsW_of tabX_stp false (N := 45) Tryz.func15 rfl rfl (by simp) fun E hE hP hX => ?_
  refine WA ?_
  refine WR ?_
  refine zh rfl (zc false (fun _ => zn3 v l at_ hl hs h0) rfl .fn rfl (by decide) (by kernel_rfl) rfl (fun _ => C0 rfl) (by simp)) ?_
  rintro _ _ ⟨_, _, _, ⟨rfl, rfl⟩, hF, hH⟩
  (refine NST hF hH ?_; clear hF hH; rintro rfl rfl)
  refine WE ?_
  generalize askF l at_ = e at h0 ⊢
  refine WA ?_
  refine zb rfl ?_
  refine WA ?_
  exact zx1 (us := [.c (.r (.slice none 0 0) []), .c (I e)]) [none] (fun _ => .t [.o 0 0 0 0, .c (I e)]) (fun _ => [.arr 56 2 0 []]) (.tmp rfl (.tmp rfl .nil)) (by decide) (ZNK rfl) (fun _ => .tL (.cons (.nil rfl) (.cons (.c rfl) .nil))) ZCH (fun _ => ⟨[], 0, .inl ⟨h0, rfl⟩, Nat.zero_le _, Nat.le_refl _, rfl, rfl⟩)
end Go.Proofs.YtcdeonjdipcgpaaGreatDoor
