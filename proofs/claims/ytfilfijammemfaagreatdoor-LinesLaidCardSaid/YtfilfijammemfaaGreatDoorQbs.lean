/- A part of a grid is flooded: by value. -/
import Derived.Test.YtfilfijammemfaaGreatDoorQbq
import Derived.Test.YtfilfijammemfaaGreatDoorQba
set_option linter.unusedSimpArgs false
set_option linter.unusedVariables false
/- A part of a grid is flooded: by value. -/
-- NEWM
namespace Go.Proofs.YtfilfijammemfaaGreatDoor
open Go Go.RowKit
set_option maxRecDepth 100000
theorem at_n (g : Grd) (n : Nat) (hn : g.on.length = n) (a b : Int) (hg : GOk g) (ha : -100000000 ≤ a ∧ a ≤ 100000000) (hb : -100000000 ≤ b ∧ b ≤ 100000000) : ACallsX true Tryz.prog 81 [.p 0 0 0, .c (I a), .c (I b)] [gB g.st g.x g.y g.w g.h 1 n, gArr n g.on] fun u H => u = .c (B (atG g a b)) ∧ H = [gB g.st g.x g.y g.w g.h 1 n, gArr n g.on] := by
 obtain ⟨hlen, hw, hh, hx, hy⟩ := hg
 refine acallsx_of true (N := 57) Tryz.func81 rfl rfl (by simp) fun E hE hP => ?_
 refine WA ?_
 refine ZZ ?_
 refine aw_regionT [(0, none), (1, none), (2, none), (3, none), (4, none), (5, none), (6, none), (7, none), (8, none), (9, none), (10, none), (11, none), (12, none), (13, none)] hMixed (by kernel_rfl) ?_
 refine WQ ?_
 by_cases c1 : 0 ≤ a - g.x
 ·by_cases c2 : a - g.x < g.w
  ·by_cases c3 : 0 ≤ b - g.y
   ·by_cases c4 : b - g.y < g.h
    ·obtain ⟨i, hi⟩ : ∃ i : Nat, (i : Int) = b - g.y := ⟨(b - g.y).toNat, by omega⟩
     obtain ⟨k, hk⟩ : ∃ k : Nat, (k : Int) = a - g.x := ⟨(a - g.x).toNat, by omega⟩
     have hlt : i * g.w + k < g.on.length := by
      rw [hlen]
      have : i + 1 ≤ g.h := by omega
      have h2 := Nat.mul_le_mul_right g.w this
      rw [Nat.succ_mul, Nat.mul_comm g.h] at h2
      omega
     have hv : atG g a b = g.on[i * g.w + k] := by
      unfold atG
      rw [decide_eq_true c1, decide_eq_true c2, decide_eq_true c3, decide_eq_true c4, show (b - g.y).toNat = i by omega, show (a - g.x).toNat = k by omega, List.getD_eq_getElem?_getD, List.getElem?_eq_getElem hlt]
      rfl
     have hrow : (oR g.on)[i * g.w + k]? = some [B g.on[i * g.w + k]] := by rw [List.getElem?_map, List.getElem?_eq_getElem hlt]; rfl
     have hltn : i * g.w + k < n := by rw [← hn]; exact hlt
     have hrow0 : (oR g.on)[0 + (i * g.w + k)]? = some [B g.on[i * g.w + k]] := by rw [Nat.zero_add]; exact hrow
     have hpe : (b - g.y) * (g.w : Int) = (i * g.w : Nat) := by rw [← hi]; simp
     have hpb : i * g.w ≤ 1000000 := Nat.le_trans (Nat.mul_le_mul (show i ≤ 1000 by omega) hw) (by decide)
     rw [hv]
     refine ZZ ?_
     refine aw_regionT [(0, none), (1, none), (2, none), (3, none), (4, none), (5, none), (6, none), (7, none), (8, none), (9, none), (10, none), (11, none), (12, none), (13, none), (14, none), (15, none), (16, none), (17, none), (18, none), (19, none), (20, none), (21, none), (22, none), (23, none), (24, none), (25, none), (26, none), (27, none), (28, none), (29, none), (30, none), (31, none), (32, none), (33, none), (34, none), (35, none), (36, none), (37, none), (38, none)] hMixed (by kernel_rfl) ?_
     iterate 35 refine WX2 ?_
     first | refine ZU rfl (rd_index (i := i * g.w + k) rfl (KE (t := 143) rfl) rfl rfl rfl (by omega) (by omega)) ?_ | refine ZV ?_
     refine WQ ?_
     exact aret_1 [some 0, some 1] _ rfl rfl rfl (by decide) (ZNK rfl) ZCH ⟨rfl, rfl⟩
    ·have hv : atG g a b = false := by unfold atG; rw [decide_eq_false c4]; simp
     rw [hv]
     refine ZZ ?_
     refine aw_regionT [(0, none), (1, none), (2, none), (3, none), (4, none), (5, none), (6, none), (7, none), (8, none), (9, none), (10, none), (11, none), (12, none), (13, none), (14, none), (15, none), (16, none), (17, none), (18, none), (19, none), (20, none), (21, none), (22, none), (23, none), (24, none), (25, none), (26, none), (27, none), (28, none), (29, none), (30, none), (31, none), (32, none), (33, none), (34, none), (35, none), (36, none), (37, none), (38, none)] hMixed (by kernel_rfl) ?_
     refine WQ ?_
     exact aret_1 [some 0, some 1] _ rfl rfl rfl (by decide) (ZNK rfl) ZCH ⟨rfl, rfl⟩
   ·have hv : atG g a b = false := by unfold atG; rw [decide_eq_false c3]; simp
    rw [hv]
    refine ZZ ?_
    refine aw_regionT [(0, none), (1, none), (2, none), (3, none), (4, none), (5, none), (6, none), (7, none), (8, none), (9, none), (10, none), (11, none), (12, none), (13, none), (14, none), (15, none), (16, none), (17, none), (18, none), (19, none), (20, none), (21, none), (22, none), (23, none), (24, none), (25, none), (26, none), (27, none), (28, none), (29, none), (30, none), (31, none), (32, none), (33, none), (34, none), (35, none), (36, none), (37, none), (38, none)] hMixed (by kernel_rfl) ?_
    refine WQ ?_
    exact aret_1 [some 0, some 1] _ rfl rfl rfl (by decide) (ZNK rfl) ZCH ⟨rfl, rfl⟩
  ·have hv : atG g a b = false := by unfold atG; rw [decide_eq_false c2]; simp
   rw [hv]
   refine ZZ ?_
   refine aw_regionT [(0, none), (1, none), (2, none), (3, none), (4, none), (5, none), (6, none), (7, none), (8, none), (9, none), (10, none), (11, none), (12, none), (13, none), (14, none), (15, none), (16, none), (17, none), (18, none), (19, none), (20, none), (21, none), (22, none), (23, none), (24, none), (25, none), (26, none), (27, none), (28, none), (29, none), (30, none), (31, none), (32, none), (33, none), (34, none), (35, none), (36, none), (37, none), (38, none)] hMixed (by kernel_rfl) ?_
   refine WQ ?_
   exact aret_1 [some 0, some 1] _ rfl rfl rfl (by decide) (ZNK rfl) ZCH ⟨rfl, rfl⟩
 ·have hv : atG g a b = false := by unfold atG; rw [decide_eq_false c1]; simp
  rw [hv]
  refine ZZ ?_
  refine aw_regionT [(0, none), (1, none), (2, none), (3, none), (4, none), (5, none), (6, none), (7, none), (8, none), (9, none), (10, none), (11, none), (12, none), (13, none), (14, none), (15, none), (16, none), (17, none), (18, none), (19, none), (20, none), (21, none), (22, none), (23, none), (24, none), (25, none), (26, none), (27, none), (28, none), (29, none), (30, none), (31, none), (32, none), (33, none), (34, none), (35, none), (36, none), (37, none), (38, none)] hMixed (by kernel_rfl) ?_
  refine WQ ?_
  exact aret_1 [some 0, some 1] _ rfl rfl rfl (by decide) (ZNK rfl) ZCH ⟨rfl, rfl⟩
theorem at_o (g : Grd) (a b : Int) (hg : GOk g) (ha : -100000000 ≤ a ∧ a ≤ 100000000) (hb : -100000000 ≤ b ∧ b ≤ 100000000) : ACallsX true Tryz.prog 81 [.p 0 0 0, .c (I a), .c (I b)] [gB g.st g.x g.y g.w g.h 1 (g.w * g.h), gArr (g.w * g.h) g.on] fun u H => u = .c (B (atG g a b)) ∧ H = [gB g.st g.x g.y g.w g.h 1 (g.w * g.h), gArr (g.w * g.h) g.on] := at_n g _ hg.len a b hg ha hb
theorem nodup_len {α : Type} [DecidableEq α] : ∀ {L C : List α}, L.Nodup → (∀ x ∈ L, x ∈ C) → L.length ≤ C.length
 | [], _, _, _ => Nat.zero_le _
 | a :: L, C, h, hs => by
  obtain ⟨h1, h2⟩ := List.nodup_cons.1 h
  have ha := hs a List.mem_cons_self
  have := nodup_len (C := C.erase a) h2 fun x hx => (List.mem_erase_of_ne (fun e => h1 (by rw [← e]; exact hx))).2 (hs x (List.mem_cons_of_mem _ hx))
  rw [List.length_erase_of_mem ha] at this
  have h3 := List.length_pos_of_mem ha
  rw [List.length_cons]
  omega
abbrev stsL : List Spot := [(0, -1), (-1, 0), (1, 0), (0, 1)]
theorem nbS_get {p s : Spot} : ∀ {j : Nat}, stsL[j]? = some s → (nbS p)[j]? = some (p.1 + s.1, p.2 + s.2)
 | 0, h => by simp at h; subst h; simp [nbS]; omega
 | 1, h => by simp at h; subst h; simp [nbS]; omega
 | 2, h => by simp at h; subst h; simp [nbS]
 | 3, h => by simp at h; subst h; simp [nbS]
 | n + 4, h => by simp at h
structure FlI (C S : List Spot) (k : Spot) (L : List Spot) (i j : Nat) : Prop where
 nd : L.Nodup
 con : ∀ p ∈ L, Conn C k p
 dis : ∀ p ∈ L, p ∉ S
 hk : k ∈ L
 don : ∀ (a : Nat) (p : Spot), a < i → L[a]? = some p → ∀ q ∈ nbS p, q ∈ C → q ∈ S ∨ q ∈ L
 cur : ∀ (p : Spot) (b : Nat) (q : Spot), L[i]? = some p → b < j → (nbS p)[b]? = some q → q ∈ C → q ∈ S ∨ q ∈ L
theorem FlI.start {C S : List Spot} {k : Spot} (hk : k ∈ C) (hS : k ∉ S) : FlI C S k [k] 0 0 :=
 ⟨by simp, fun p hp => by rw [List.mem_singleton.1 hp]; exact .here hk, fun p hp => by rw [List.mem_singleton.1 hp]; exact hS, by simp, fun a p h => by omega, fun p b q _ h => by omega⟩
theorem FlI.no {C S : List Spot} {k : Spot} {L : List Spot} {i j : Nat} {p q : Spot} (h : FlI C S k L i j) (hp : L[i]? = some p) (hq : (nbS p)[j]? = some q) (hn : q ∈ C → q ∈ S ∨ q ∈ L) : FlI C S k L i (j + 1) :=
 ⟨h.nd, h.con, h.dis, h.hk, h.don, fun p' b q' h1 h2 h3 h4 => by
  obtain rfl : p = p' := Option.some.inj (hp.symm.trans h1)
  by_cases e : b = j
  ·subst e
   obtain rfl : q = q' := Option.some.inj (hq.symm.trans h3)
   exact hn h4
  ·exact h.cur p b q' hp (by omega) h3 h4⟩
theorem FlI.yes {C S : List Spot} {k : Spot} {L : List Spot} {i j : Nat} {p q : Spot} (h : FlI C S k L i j) (hp : L[i]? = some p) (hq : (nbS p)[j]? = some q) (hC : q ∈ C) (hS : q ∉ S) (hL : q ∉ L) : FlI C S k (L ++ [q]) i (j + 1) := by
 have hi := (List.getElem?_eq_some_iff.1 hp).1
 have get : ∀ (a : Nat) (x : Spot), a ≤ i → (L ++ [q])[a]? = some x → L[a]? = some x := fun a x ha hx => by rwa [List.getElem?_append_left (by omega)] at hx
 have up : ∀ x : Spot, x ∈ S ∨ x ∈ L → x ∈ S ∨ x ∈ L ++ [q] := fun x hx => hx.imp id fun hx => List.mem_append_left _ hx
 refine ⟨?_, fun x hx => ?_, fun x hx => ?_, List.mem_append_left _ h.hk, fun a x ha hx y hy hy2 => up _ (h.don a x ha (get a x (by omega) hx) y hy hy2), fun x b y hx hb hy hy2 => ?_⟩
 ·refine List.nodup_append.2 ⟨h.nd, by simp, fun a ha b hb e => ?_⟩
  rw [List.mem_singleton.1 hb] at e
  subst e
  exact hL ha
 ·rcases List.mem_append.1 hx with hx | hx
  ·exact h.con x hx
  ·rw [List.mem_singleton.1 hx]
   exact .step (h.con p (List.mem_of_getElem? hp)) (List.mem_of_getElem? hq) hC
 ·rcases List.mem_append.1 hx with hx | hx
  ·exact h.dis x hx
  ·rw [List.mem_singleton.1 hx]; exact hS
 ·obtain rfl : p = x := Option.some.inj (hp.symm.trans (get i x (Nat.le_refl _) hx))
  by_cases e : b = j
  ·subst e
   obtain rfl : q = y := Option.some.inj (hq.symm.trans hy)
   exact .inr (by simp)
  ·exact up _ (h.cur p b y hp (by omega) hy hy2)
theorem FlI.next {C S : List Spot} {k : Spot} {L : List Spot} {i : Nat} (h : FlI C S k L i 4) : FlI C S k L (i + 1) 0 :=
 ⟨h.nd, h.con, h.dis, h.hk, fun a p ha hp q hq hC => by
  by_cases e : a = i
  ·subst e
   obtain ⟨b, hb⟩ := List.getElem?_of_mem hq
   have h4 := (List.getElem?_eq_some_iff.1 hb).1
   exact h.cur p b q hp (by simpa [nbS] using h4) hb hC
  ·exact h.don a p (by omega) hp q hq hC, fun p b q _ hb => by omega⟩
theorem FlI.fin {C S : List Spot} {k : Spot} {L : List Spot} {i j : Nat} (h : FlI C S k L i j) (hi : L.length ≤ i) (hS : Clo C S) (q : Spot) : q ∈ L ↔ Conn C k q :=
 conn_end hS h.hk h.dis h.con (fun p hp q hq hC => by
  obtain ⟨a, ha⟩ := List.getElem?_of_mem hp
  exact h.don a p (by have := (List.getElem?_eq_some_iff.1 ha).1; omega) ha q hq hC) q
theorem FlI.len {C S : List Spot} {k : Spot} {L : List Spot} {i j : Nat} (h : FlI C S k L i j) : L.length ≤ C.length :=
 nodup_len h.nd fun p hp => (h.con p hp).mem
theorem steps_v : ACalls Tryz.prog 128 [] [] fun u H => ∃ v : Value, u = .c (.r v (sR stsL)) ∧ H = [] := by
 refine acalls_of (N := 6) Tryz.func128 rfl rfl (by simp) fun E hE => ?_
 refine WA ?_
 refine WA ?_
 exact aret_f1 [] _ rfl rfl rfl rfl (by rfl) (by rfl) rfl (by decide) (ZNK rfl) (fun _ => .nil) (fun q => ⟨q, rfl, rfl⟩)
set_option maxHeartbeats 4000000 in
theorem flood_v (g : Grd) (pg vg : Value) (hg : GOk g) (onS onP : List Bool) (hS : onS.length = g.w * g.h) (hPn : onP.length = g.w * g.h) (k : Spot) (hk : k ∈ covG g) (S : List Spot) (hSe : ∀ q, q ∈ covG { g with on := onS } ↔ q ∈ S) (hclo : Clo (covG g) S) (hkS : k ∉ S) :
    ACallsX true Tryz.prog 88 [gV pg vg g, .p 0 0 0, .c (I k.1), .c (I k.2), .f (.via 0 #[] 79 false) [.p 2 0 0]] [gB g.st g.x g.y g.w g.h 1 (g.w * g.h), gArr (g.w * g.h) onS, gB g.st g.x g.y g.w g.h 3 (g.w * g.h), gArr (g.w * g.h) onP] fun u H => ∃ L : List Spot, u = .t [] ∧ (∀ q, q ∈ L ↔ Conn (covG g) k q) ∧ H = [gB g.st g.x g.y g.w g.h 1 (g.w * g.h), gArr (g.w * g.h) (putG g.x g.y g.w onS L), gB g.st g.x g.y g.w g.h 3 (g.w * g.h), gArr (g.w * g.h) (putG g.x g.y g.w onP L)] := by
 have hnb : g.w * g.h ≤ 1000000 := Nat.le_trans (Nat.mul_le_mul hg.w hg.h) (by decide)
 have hlc : (covG g).length ≤ 1000000 := by
  have := (cnt_le (g := g) (h := g) g.on.length).1
  have h2 : cntG g g.on.length = (covG g).length := rfl
  have h3 := hg.len
  omega
 have hbx : ∀ q ∈ covG g, inBox g.x g.y g.w g.h q := fun q hq => covG_box hg.len hq
 have hbd : ∀ q ∈ covG g, -10000000 ≤ q.1 ∧ q.1 ≤ 10001000 ∧ -10000000 ≤ q.2 ∧ q.2 ≤ 10001000 := fun q hq => spt_bd hg hq
 have hcv : ∀ L : List Spot, (∀ p ∈ L, Conn (covG g) k p) → ∀ q, q ∈ covG { g with on := putG g.x g.y g.w onS L } ↔ q ∈ S ∨ q ∈ L := fun L hL q => by
  have := put_cov (L := L) (g := { g with on := onS }) hS (fun p hp => hbx p (hL p hp).mem) (q := q)
  simp only at this
  rw [this, hSe]
 obtain ⟨kx, ky⟩ := k
 obtain ⟨i1, i2, _⟩ := ix_box (hbx _ hk)
 have hkb := hbd _ hk
 simp only at i1 hkb ⊢
 refine acallsx_of true (N := 90) Tryz.func88 rfl rfl (by simp) fun E hE hP => ?_
 refine WR ?_
 refine al_ef rfl (ef_callp [0, 1] (fun _ => [gB g.st g.x g.y g.w g.h 1 (g.w * g.h), gArr (g.w * g.h) onS]) false (fun _ => set_v g.st g.x g.y g.w g.h onS (g.w * g.h) kx ky _ hS i1 i2 hnb (by omega) (by omega) hg.x hg.y) rfl .fn rfl (by decide) (by kernel_rfl) rfl (fun _ => .cons (.p rfl) (.cons (.c rfl) (.cons (.c rfl) .nil))) (by decide) ZCH (by simp)) ?_
 rintro F1 H1 ⟨_, _, _, _, ⟨rfl, rfl⟩, hF, hH⟩
 rw [killF_nil] at hF; (refine NSU hF hH ?_; clear hF hH; rintro rfl rfl)
 refine WE ?_
 refine WA ?_
 refine WA ?_
 have hone : onS.set (ixG g.x g.y g.w (kx, ky)) true = putG g.x g.y g.w onS [(kx, ky)] := rfl
 rw [hone]
 refine aw_loopw (fun m F H => ∃ (i cp : Nat) (L : List Spot), m + i = (covG g).length ∧ i ≤ L.length ∧ FlI (covG g) S (kx, ky) L i 0 ∧ F = [(0, gV pg vg g), (1, .p 0 0 0), (4, .f (.via 0 #[] 79 false) [.p 2 0 0]), (10, .o 4 0 L.length cp), (11, .c (I i))] ∧ H = [gB g.st g.x g.y g.w g.h 1 (g.w * g.h), gArr (g.w * g.h) (putG g.x g.y g.w onS L), gB g.st g.x g.y g.w g.h 3 (g.w * g.h), gArr (g.w * g.h) (putG g.x g.y g.w onP (L.take i)), .arr 107 2 cp (sR L)]) ?_ ?_
 ·refine wk_of [some 0, some 1, some 2, some 3, some 4] (fun _ => [(0, gV pg vg g), (1, .p 0 0 0), (4, .f (.via 0 #[] 79 false) [.p 2 0 0]), (10, .o 4 0 ([((kx, ky) : Spot)]).length 1), (11, .c (I (0 : Nat)))]) (fun _ => [gB g.st g.x g.y g.w g.h 1 (g.w * g.h), gArr (g.w * g.h) (putG g.x g.y g.w onS [(kx, ky)]), gB g.st g.x g.y g.w g.h 3 (g.w * g.h), gArr (g.w * g.h) (putG g.x g.y g.w onP (([(kx, ky)] : List Spot).take 0)), .arr 107 2 1 (sR ([((kx, ky) : Spot)]))]) (by decide) (ZNL hE) ZCF ZCH (fun _ => ?_)
  exact ⟨(covG g).length, 0, 1, [(kx, ky)], by omega, by simp, FlI.start hk hkS, rfl, rfl⟩
 rintro m F H ⟨i, cp, L, hm, hiL, hI, rfl, rfl⟩
 have hLn := hI.len
 have e1 : (sR L).length = L.length := by simp
 refine WA ?_
 refine aw_if rfl (fun hlt => ?_) (fun hge => ?_)
 ·obtain ⟨⟨px, py⟩, hpi⟩ : ∃ e, L[i]? = some e := ⟨_, List.getElem?_eq_getElem (by omega)⟩
  have hrow : (sR L)[i]? = some [I px, I py] := by rw [List.getElem?_map, hpi]; rfl
  have hrow0 : (sR L)[0 + i]? = some [I px, I py] := by rw [Nat.zero_add]; exact hrow
  have hpc := (hI.con _ (List.mem_of_getElem? hpi)).mem
  obtain ⟨j1, j2, _⟩ := ix_box (hbx _ hpc)
  have hpb := hbd _ hpc
  simp only at j1 hpb
  have hpl : (putG g.x g.y g.w onP (L.take i)).length = g.w * g.h := by rw [putG_len, hPn]
  have htk : putG g.x g.y g.w onP (L.take (i + 1)) = (putG g.x g.y g.w onP (L.take i)).set (ixG g.x g.y g.w (px, py)) true := by rw [List.take_add_one, hpi]; exact putG_snoc
  refine ZZ ?_
  refine aw_regionT [(0, none), (1, none), (2, none), (3, none), (4, none), (5, none), (6, none), (7, none), (8, none), (9, none), (10, none), (11, some [])] hMixed (by kernel_rfl) ?_
  refine WP ?_
  refine at_ef rfl rfl (ef_callp [2, 3] (fun _ => [gB g.st g.x g.y g.w g.h 1 (g.w * g.h), gArr (g.w * g.h) (putG g.x g.y g.w onP (L.take i))]) false (fun _ => set_v g.st g.x g.y g.w g.h (putG g.x g.y g.w onP (L.take i)) (g.w * g.h) px py _ hpl j1 j2 hnb (by omega) (by omega) hg.x hg.y) rfl (.bnd rfl) rfl (by decide) (by kernel_rfl) rfl (fun _ => .cons (.p rfl) (.cons (.c rfl) (.cons (.c rfl) .nil))) (by decide) ZCH (by simp)) ?_
  rintro F1 H1 ⟨_, _, _, _, ⟨rfl, rfl⟩, hF, hH⟩
  rw [killF_nil] at hF; (refine NSU hF hH ?_; clear hF hH; rintro rfl rfl)
  refine ⟨ag_none, ?_⟩
  refine WQ ?_
  rw [← htk]
  refine ZR ?_
  refine al_ef rfl (ef_call0 false (fun _ => steps_v) rfl .fn rfl (by decide) (by kernel_rfl) rfl (fun _ => C0 rfl) (by simp)) ?_
  rintro _ _ ⟨_, _, _, ⟨v4, rfl, rfl⟩, hF, hH⟩
  (refine NST hF hH ?_; clear hF hH; rintro rfl rfl)
  refine WE ?_
  refine aw_loopw (fun m2 F H => ∃ (j cp : Nat) (M : List Spot), m2 + j = 4 ∧ i + 1 ≤ M.length ∧ M[i]? = some (px, py) ∧ FlI (covG g) S (kx, ky) M i j ∧ F = [(0, gV pg vg g), (1, .p 0 0 0), (4, .f (.via 0 #[] 79 false) [.p 2 0 0]), (10, .o 4 0 M.length cp), (11, .c (I i)), (41, .c (.r v4 (sR stsL))), (42, .c (I 4)), (43, .c (I j))] ∧ H = [gB g.st g.x g.y g.w g.h 1 (g.w * g.h), gArr (g.w * g.h) (putG g.x g.y g.w onS M), gB g.st g.x g.y g.w g.h 3 (g.w * g.h), gArr (g.w * g.h) (putG g.x g.y g.w onP (M.take (i + 1))), .arr 107 2 cp (sR M)]) ?_ ?_
  ·refine wk_of [some 0, some 1, some 2, some 3, some 4] (fun _ => [(0, gV pg vg g), (1, .p 0 0 0), (4, .f (.via 0 #[] 79 false) [.p 2 0 0]), (10, .o 4 0 (L).length cp), (11, .c (I i)), (41, .c (.r v4 (sR stsL))), (42, .c (I 4)), (43, .c (I (0 : Nat)))]) (fun _ => [gB g.st g.x g.y g.w g.h 1 (g.w * g.h), gArr (g.w * g.h) (putG g.x g.y g.w onS L), gB g.st g.x g.y g.w g.h 3 (g.w * g.h), gArr (g.w * g.h) (putG g.x g.y g.w onP (L.take (i + 1))), .arr 107 2 cp (sR (L))]) (by decide) (ZNL hE) ZCF ZCH (fun _ => ?_)
   exact ⟨4, 0, cp, L, by omega, by omega, hpi, hI, rfl, rfl⟩
  clear hI hpl htk hrow hrow0 e1 hLn hpi hlt hiL
  rintro m2 F H ⟨j, cp2, M, hm2, hiM, hpi, hI, rfl, rfl⟩
  have hLn := hI.len
  have e1 : (sR M).length = M.length := by simp
  have hrow : (sR M)[i]? = some [I px, I py] := by rw [List.getElem?_map, hpi]; rfl
  have hrow0 : (sR M)[0 + i]? = some [I px, I py] := by rw [Nat.zero_add]; exact hrow
  refine WA ?_
  refine aw_if rfl (fun hlt => ?_) (fun hge => ?_)
  ·obtain ⟨⟨sx, sy⟩, hsj⟩ : ∃ e, stsL[j]? = some e := ⟨_, List.getElem?_eq_getElem (by simp; omega)⟩
   have hsrow : (sR stsL)[j]? = some [I sx, I sy] := by rw [List.getElem?_map, hsj]; rfl
   have hsb : (-1 ≤ sx ∧ sx ≤ 1) ∧ (-1 ≤ sy ∧ sy ≤ 1) := by
    have := List.mem_of_getElem? hsj
    simp at this
    omega
   have hnb4 := nbS_get (p := (px, py)) hsj
   simp only at hnb4
   refine WA ?_
   obtain ⟨qx, hqx⟩ : ∃ z, px + sx = z := ⟨_, rfl⟩
   obtain ⟨qy, hqy⟩ : ∃ z, py + sy = z := ⟨_, rfl⟩
   refine aw_cut (fun F H => F = [(0, gV pg vg g), (1, .p 0 0 0), (4, .f (.via 0 #[] 79 false) [.p 2 0 0]), (10, .o 4 0 M.length cp2), (11, .c (I i)), (14, .p 5 0 0), (41, .c (.r v4 (sR stsL))), (42, .c (I 4)), (43, .c (I j))] ∧ H = [gB g.st g.x g.y g.w g.h 1 (g.w * g.h), gArr (g.w * g.h) (putG g.x g.y g.w onS M), gB g.st g.x g.y g.w g.h 3 (g.w * g.h), gArr (g.w * g.h) (putG g.x g.y g.w onP (M.take (i + 1))), .arr 107 2 cp2 (sR M), .box [.c (I qx), .c (I qy)]]) ?_ ?_ wk_aw
   ·refine ZZ ?_
    refine aw_regionT [(0, none), (1, none), (2, none), (3, none), (4, none), (5, none), (6, none), (7, none), (8, none), (9, none), (10, none), (11, none), (12, none), (13, none), (14, none), (15, none), (16, none), (17, some [0, 1, 2, 3, 4, 5, 6, 7, 8, 9, 10, 11, 12, 13, 14, 15, 16]), (18, some [])] hMixed (by kernel_rfl) ?_
    refine WQ ?_
    all_goals (
     rw [hqx, hqy]
     exact wk_of [some 0, some 1, some 2, some 3, some 4, some 6] (fun _ => [(0, gV pg vg g), (1, .p 0 0 0), (4, .f (.via 0 #[] 79 false) [.p 2 0 0]), (10, .o 4 0 M.length cp2), (11, .c (I i)), (14, .p 5 0 0), (41, .c (.r v4 (sR stsL))), (42, .c (I 4)), (43, .c (I j))]) (fun _ => [gB g.st g.x g.y g.w g.h 1 (g.w * g.h), gArr (g.w * g.h) (putG g.x g.y g.w onS M), gB g.st g.x g.y g.w g.h 3 (g.w * g.h), gArr (g.w * g.h) (putG g.x g.y g.w onP (M.take (i + 1))), .arr 107 2 cp2 (sR M), .box [.c (I qx), .c (I qy)]]) (by decide) (ZNL hE) ZCF ZCH (fun _ => ⟨rfl, rfl⟩))
   rintro F H ⟨rfl, rfl⟩
   refine ZZ ?_
   rw [hqx, hqy] at hnb4
   have hgS : GOk { g with on := putG g.x g.y g.w onS M } := ⟨by simp only [putG_len]; exact hS, hg.w, hg.h, hg.x, hg.y⟩
   obtain ⟨b1, hb1⟩ : ∃ b, atG g qx qy = b := ⟨_, rfl⟩
   obtain ⟨b2, hb2⟩ : ∃ b, atG { g with on := putG g.x g.y g.w onS M } qx qy = b := ⟨_, rfl⟩
   have hm2 := hcv M hI.con (qx, qy)
   have hml : (putG g.x g.y g.w onS M).length = g.w * g.h := by rw [putG_len, hS]
   cases b1 with
   | false =>
    have hI2 := hI.no hpi hnb4 (fun hC => by rw [(atG_iff hg.len).2 hC] at hb1; cases hb1)
    refine WR ?_
    refine al_ef rfl (ef_call0 false (fun _ => at_v g pg vg qx qy hg (by omega) (by omega)) rfl .fn rfl (by decide) (by kernel_rfl) rfl (fun _ => C0 rfl) (by simp)) ?_
    rintro _ _ ⟨_, _, _, ⟨rfl, rfl⟩, hF, hH⟩
    rw [hb1] at hF
    (refine NST hF hH ?_; clear hF hH; rintro rfl rfl)
    refine WO ?_
    first | refine ZS ?_ | (refine G1 rfl ?_; refine al_ef rfl (ef_callp [0, 1] (fun _ => [gB g.st g.x g.y g.w g.h 1 (g.w * g.h), gArr (g.w * g.h) (putG g.x g.y g.w onS M)]) false (fun _ => at_o { g with on := putG g.x g.y g.w onS M } qx qy hgS (by omega) (by omega)) rfl .fn rfl (by decide) (by kernel_rfl) rfl (fun _ => .cons (.p rfl) (.cons (.c rfl) (.cons (.c rfl) .nil))) (by decide) ZCH (by simp)) ?_; rintro F1 H1 ⟨_, _, _, _, ⟨rfl, rfl⟩, hF, hH⟩; rw [hb2] at hF; rw [killF_nil] at hF; (refine NSU hF hH ?_; clear hF hH; rintro rfl rfl)) | skip
    refine WE ?_
    refine aw_cond_f rfl ?_
    refine ZZ ?_
    refine WA ?_
    refine wk_of [some 0, some 1, some 2, some 3, some 4] (fun _ => [(0, gV pg vg g), (1, .p 0 0 0), (4, .f (.via 0 #[] 79 false) [.p 2 0 0]), (10, .o 4 0 (M).length cp2), (11, .c (I i)), (41, .c (.r v4 (sR stsL))), (42, .c (I 4)), (43, .c (I (j + 1 : Nat)))]) (fun _ => [gB g.st g.x g.y g.w g.h 1 (g.w * g.h), gArr (g.w * g.h) (putG g.x g.y g.w onS M), gB g.st g.x g.y g.w g.h 3 (g.w * g.h), gArr (g.w * g.h) (putG g.x g.y g.w onP (M.take (i + 1))), .arr 107 2 cp2 (sR (M))]) (by decide) (ZNL hE) ZCF ZCH (fun _ => ?_)
    exact ⟨m2 - 1, by omega, j + 1, cp2, M, by omega, hiM, hpi, hI2, rfl, rfl⟩
   | true =>
    have hC := (atG_iff hg.len).1 hb1
    cases b2 with
    | true =>
     have hI2 := hI.no hpi hnb4 (fun _ => hm2.1 ((atG_iff hgS.len).1 hb2))
     refine WR ?_
     refine al_ef rfl (ef_call0 false (fun _ => at_v g pg vg qx qy hg (by omega) (by omega)) rfl .fn rfl (by decide) (by kernel_rfl) rfl (fun _ => C0 rfl) (by simp)) ?_
     rintro _ _ ⟨_, _, _, ⟨rfl, rfl⟩, hF, hH⟩
     rw [hb1] at hF
     (refine NST hF hH ?_; clear hF hH; rintro rfl rfl)
     refine WO ?_
     first | refine ZS ?_ | (refine G1 rfl ?_; refine al_ef rfl (ef_callp [0, 1] (fun _ => [gB g.st g.x g.y g.w g.h 1 (g.w * g.h), gArr (g.w * g.h) (putG g.x g.y g.w onS M)]) false (fun _ => at_o { g with on := putG g.x g.y g.w onS M } qx qy hgS (by omega) (by omega)) rfl .fn rfl (by decide) (by kernel_rfl) rfl (fun _ => .cons (.p rfl) (.cons (.c rfl) (.cons (.c rfl) .nil))) (by decide) ZCH (by simp)) ?_; rintro F1 H1 ⟨_, _, _, _, ⟨rfl, rfl⟩, hF, hH⟩; rw [hb2] at hF; rw [killF_nil] at hF; (refine NSU hF hH ?_; clear hF hH; rintro rfl rfl)) | skip
     refine WE ?_
     refine aw_cond_f rfl ?_
     refine ZZ ?_
     refine WA ?_
     refine wk_of [some 0, some 1, some 2, some 3, some 4] (fun _ => [(0, gV pg vg g), (1, .p 0 0 0), (4, .f (.via 0 #[] 79 false) [.p 2 0 0]), (10, .o 4 0 (M).length cp2), (11, .c (I i)), (41, .c (.r v4 (sR stsL))), (42, .c (I 4)), (43, .c (I (j + 1 : Nat)))]) (fun _ => [gB g.st g.x g.y g.w g.h 1 (g.w * g.h), gArr (g.w * g.h) (putG g.x g.y g.w onS M), gB g.st g.x g.y g.w g.h 3 (g.w * g.h), gArr (g.w * g.h) (putG g.x g.y g.w onP (M.take (i + 1))), .arr 107 2 cp2 (sR (M))]) (by decide) (ZNL hE) ZCF ZCH (fun _ => ?_)
     exact ⟨m2 - 1, by omega, j + 1, cp2, M, by omega, hiM, hpi, hI2, rfl, rfl⟩
    | false =>
     have hno : ¬ ((qx, qy) ∈ S ∨ (qx, qy) ∈ M) := fun h => by
      rw [(atG_iff hgS.len).2 (hm2.2 h)] at hb2; cases hb2
     have hI2 := hI.yes hpi hnb4 hC (fun h => hno (.inl h)) (fun h => hno (.inr h))
     obtain ⟨l1, l2, _⟩ := ix_box (hbx _ hC)
     have hqb := hbd _ hC
     simp only at l1 hqb
     have hset : (putG g.x g.y g.w onS M).set (ixG g.x g.y g.w (qx, qy)) true = putG g.x g.y g.w onS (M ++ [(qx, qy)]) := putG_snoc.symm
     refine WR ?_
     refine al_ef rfl (ef_call0 false (fun _ => at_v g pg vg qx qy hg (by omega) (by omega)) rfl .fn rfl (by decide) (by kernel_rfl) rfl (fun _ => C0 rfl) (by simp)) ?_
     rintro _ _ ⟨_, _, _, ⟨rfl, rfl⟩, hF, hH⟩
     rw [hb1] at hF
     (refine NST hF hH ?_; clear hF hH; rintro rfl rfl)
     refine WO ?_
     first | refine ZS ?_ | (refine G1 rfl ?_; refine al_ef rfl (ef_callp [0, 1] (fun _ => [gB g.st g.x g.y g.w g.h 1 (g.w * g.h), gArr (g.w * g.h) (putG g.x g.y g.w onS M)]) false (fun _ => at_o { g with on := putG g.x g.y g.w onS M } qx qy hgS (by omega) (by omega)) rfl .fn rfl (by decide) (by kernel_rfl) rfl (fun _ => .cons (.p rfl) (.cons (.c rfl) (.cons (.c rfl) .nil))) (by decide) ZCH (by simp)) ?_; rintro F1 H1 ⟨_, _, _, _, ⟨rfl, rfl⟩, hF, hH⟩; rw [hb2] at hF; rw [killF_nil] at hF; (refine NSU hF hH ?_; clear hF hH; rintro rfl rfl)) | skip
     refine WE ?_
     refine aw_cond_t rfl ?_
     refine WR ?_
     refine al_ef rfl (ef_callp [0, 1] (fun _ => [gB g.st g.x g.y g.w g.h 1 (g.w * g.h), gArr (g.w * g.h) (putG g.x g.y g.w onS M)]) false (fun _ => set_v g.st g.x g.y g.w g.h (putG g.x g.y g.w onS M) (g.w * g.h) qx qy _ hml l1 l2 hnb (by omega) (by omega) hg.x hg.y) rfl .fn rfl (by decide) (by kernel_rfl) rfl (fun _ => .cons (.p rfl) (.cons (.c rfl) (.cons (.c rfl) .nil))) (by decide) ZCH (by simp)) ?_
     rintro F1 H1 ⟨_, _, _, _, ⟨rfl, rfl⟩, hF, hH⟩
     rw [killF_nil] at hF; (refine NSU hF hH ?_; clear hF hH; rintro rfl rfl)
     refine WE ?_
     rw [hset]
     refine WR ?_
     refine al_ef rfl (Zapp (KA (t := 52) rfl)) ?_
     rintro _ _ ⟨_, cc, hcc, rfl, rfl⟩
     refine WE ?_
     refine WA ?_
     refine wk_of [some 0, some 1, some 2, some 3, some 4] (fun _ => [(0, gV pg vg g), (1, .p 0 0 0), (4, .f (.via 0 #[] 79 false) [.p 2 0 0]), (10, .o 4 0 (M ++ [((qx, qy) : Spot)]).length cc), (11, .c (I i)), (41, .c (.r v4 (sR stsL))), (42, .c (I 4)), (43, .c (I (j + 1 : Nat)))]) (fun _ => [gB g.st g.x g.y g.w g.h 1 (g.w * g.h), gArr (g.w * g.h) (putG g.x g.y g.w onS (M ++ [(qx, qy)])), gB g.st g.x g.y g.w g.h 3 (g.w * g.h), gArr (g.w * g.h) (putG g.x g.y g.w onP (M.take (i + 1))), .arr 107 2 cc (sR (M ++ [((qx, qy) : Spot)]))]) (by decide) (ZNL hE) ZCF ZCH (fun _ => ?_)
     exact ⟨m2 - 1, by omega, j + 1, cc, M ++ [(qx, qy)], by omega, by simp; omega, by rw [List.getElem?_append_left (by omega)]; exact hpi, hI2, rfl, by rw [List.take_append_of_le_length (by omega)]⟩
  obtain rfl : j = 4 := by simp at hge; omega
  refine ZZ ?_
  refine WA ?_
  refine wk_of [some 0, some 1, some 2, some 3, some 4] (fun _ => [(0, gV pg vg g), (1, .p 0 0 0), (4, .f (.via 0 #[] 79 false) [.p 2 0 0]), (10, .o 4 0 (M).length cp2), (11, .c (I (i + 1 : Nat)))]) (fun _ => [gB g.st g.x g.y g.w g.h 1 (g.w * g.h), gArr (g.w * g.h) (putG g.x g.y g.w onS M), gB g.st g.x g.y g.w g.h 3 (g.w * g.h), gArr (g.w * g.h) (putG g.x g.y g.w onP (M.take (i + 1))), .arr 107 2 cp2 (sR (M))]) (by decide) (ZNL hE) ZCF ZCH (fun _ => ?_)
  exact ⟨m - 1, by omega, i + 1, cp2, M, by omega, by omega, hI.next, rfl, rfl⟩
 have htl : L.take i = L := List.take_of_length_le (by omega)
 rw [htl]
 refine ZZ ?_
 exact aret_0 [some 0, some 1, some 2, some 3] (fun _ => [gB g.st g.x g.y g.w g.h 1 (g.w * g.h), gArr (g.w * g.h) (putG g.x g.y g.w onS L), gB g.st g.x g.y g.w g.h 3 (g.w * g.h), gArr (g.w * g.h) (putG g.x g.y g.w onP L)]) (.inr rfl) rfl (by decide) (ZNL (n := 4) rfl) ZCH (fun _ => ⟨L, rfl, hI.fin (by omega) hclo, rfl⟩)
end Go.Proofs.YtfilfijammemfaaGreatDoor
