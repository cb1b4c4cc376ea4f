/- Counting covered cells: plain. -/
import Derived.Test.YtniolldgidgffaaGreatDoorQbl
import Derived.Test.YtniolldgidgffaaGreatDoorQbi
import Derived.Test.YtniolldgidgffaaGreatDoorQak
import Derived.Lib.Overlaps
import Derived.Lib.AppendZeros
import Derived.Lib.AppendZerosOnto
import Derived.Test.YtniolldgidgffaaGreatDoorQao
import Derived.Test.YtniolldgidgffaaGreatDoorQbg
import Derived.Test.YtniolldgidgffaaGreatDoorQbh
import Derived.Test.YtniolldgidgffaaGreatDoorQba
import Derived.Test.YtniolldgidgffaaGreatDoorQbf
set_option linter.unusedSimpArgs false
set_option linter.unusedVariables false
/- Whole, by value. -/
-- NEWM
namespace Go.Proofs.YtniolldgidgffaaGreatDoor
open Go Go.RowKit
set_option maxRecDepth 100000
def zc : Cel := ⟨0, 0, 0, []⟩
def fstF : List Cel → Int
 | [] => 0
 | c :: l => if celF c ≠ 0 then celF c else fstF l
theorem fstF_drop {l : List Cel} {k : Nat} {c : Cel} (h : l[k]? = some c) : fstF (l.drop k) = if celF c ≠ 0 then celF c else fstF (l.drop (k + 1)) := by
 obtain ⟨h1, h2⟩ := List.getElem?_eq_some_iff.1 h
 rw [List.drop_eq_getElem_cons h1, h2]; rfl
theorem fstF_0 : ∀ {l : List Cel}, fstF l = 0 → ∀ c ∈ l, RCel c
 | [], _, c, hc => (by cases hc)
 | d :: l, h, c, hc => by
  unfold fstF at h
  split at h
  ·contradiction
  ·rename_i h1
   rcases List.mem_cons.1 hc with rfl | hc
   ·exact celF_0.1 (by omega)
   ·exact fstF_0 h c hc
def foldU (o : Cel) : List Cel → Cel × Int
 | [] => (o, 0)
 | c :: l => if (normC o.st (covL o ++ covL c)).2 ≠ 0 then (zc, (normC o.st (covL o ++ covL c)).2) else foldU (normC o.st (covL o ++ covL c)).1 l
theorem foldU_drop {o : Cel} {l : List Cel} {k : Nat} {c : Cel} (h : l[k]? = some c) : foldU o (l.drop k) = if (normC o.st (covL o ++ covL c)).2 ≠ 0 then (zc, (normC o.st (covL o ++ covL c)).2) else foldU (normC o.st (covL o ++ covL c)).1 (l.drop (k + 1)) := by
 obtain ⟨h1, h2⟩ := List.getElem?_eq_some_iff.1 h
 rw [List.drop_eq_getElem_cons h1, h2]; rfl
theorem normC_2 {st : Int} {L : List Spot} (hst : 2 ≤ st ∧ st ≤ 10000 ∧ st.tmod 2 = 0) (h : (normC st L).2 = 0) : RCel (normC st L).1 ∧ (normC st L).1.st = st := by
 have hr : RCel (normC st L).1 := by
  revert h
  unfold normC
  split
  ·intro _
   have h := celN_ok (st := st) (L := []) hst (by decide) (by decide) (by simp [x0, mnL, cols]) (by simp [y0, mnL, rws])
   exact h
  split
  ·intro h; exact absurd h (by decide)
  split
  ·rename_i h1; intro h; exact absurd h h1
  ·rename_i h1; intro _; exact celF_0.1 (by simpa using h1)
 exact ⟨hr, normC_rst hr⟩
def wholeF (l : List Cel) : Cel × Int :=
 if fstF l ≠ 0 then (zc, fstF l) else if sameB l = false then (zc, 3) else if dupT false [] (l.flatMap fun c => covG (grdOf c)) = true then (zc, 13) else foldU (l.headD zc) l.tail
theorem sameB_t {l : List Cel} (h : sameB l = true) : ∀ c ∈ l, c.st = (l.headD ⟨0, 0, 0, []⟩).st := fun c hc => by
 unfold sameB at h
 rw [Bool.not_eq_true', ← Bool.not_eq_true, List.any_eq_true] at h
 apply Classical.byContradiction
 intro e
 exact h ⟨c, hc, by simpa using e⟩
theorem rd_slicerq {P : Program} {N : Nat} {E : Env} {F : Fm} {H : List OB} {o : Oper} {t e : TypeId} {sz : Nat} {x : Operand} {lo hi : Option Operand} {l h : Nat} {v : Value} {rows rows' : List (List CV)} (hq : (rows.take h).drop l = rows') (ho : o.op = .slice t x lo hi none) (ht : elemSz P t = some (e, sz)) (hx : ev F x = some (.c (.r v rows))) (hrow : ∀ row ∈ rows, row.length = sz)
    (hlo : (lo = none ∧ l = 0) ∨ ∃ y kd z, lo = some y ∧ ev F y = some (.c (.s (.int kd z))) ∧ z = l) (hhi : (hi = none ∧ h = rows.length) ∨ ∃ y kd z, hi = some y ∧ ev F y = some (.c (.s (.int kd z))) ∧ z = h) (hlh : l ≤ h) (hhc : h ≤ rows.length) : Rd P N E o F H (.c (.r (subV v l h sz) rows')) := hq ▸ rd_slicer ho ht hx hrow hlo hhi hlh hhc
set_option maxHeartbeats 4000000 in
theorem whole_v (f : Fil) (hn : f.lv.length ≤ 900000) (hr : ∀ q ∈ f.lv ++ [f.s, f.p], q.2.rows.length ≤ 1000000000 ∧ ∀ r ∈ q.2.rows, r.length ≤ 1000000000) : ACalls Tryz.prog 36 [.a ((filR f).map .c)] [] fun u H => ∃ v', u = .t [celA v' (wholeF ((f.lv ++ [f.s, f.p]).map Prod.snd)).1, .c (I (wholeF ((f.lv ++ [f.s, f.p]).map Prod.snd)).2)] ∧ H = [] := by
 obtain ⟨wv, lv, ⟨vs, s⟩, ⟨vp, p⟩⟩ := f
 simp only at hn hr
 have hlv4 : ∀ row ∈ cR lv, row.length = 4 := fun row h => by
  obtain ⟨q, _, rfl⟩ := List.mem_map.1 h
  rfl
 have hlv1 : ∀ row ∈ cR lv, ∀ u ∈ row, u.one = true := fun row h => by
  obtain ⟨q, _, rfl⟩ := List.mem_map.1 h
  intro u hu
  simp only [List.mem_cons, List.not_mem_nil, or_false] at hu
  rcases hu with rfl | rfl | rfl | rfl <;> rfl
 refine acalls_of (N := 79) Tryz.func36 rfl rfl (by simp) fun E hE => ?_
 refine WA ?_
 refine WA ?_
 refine aw_wk (wk_of (K := fun F H => F = [(1, .p 0 0 0), (2, .p 1 0 0), (4, .o 2 0 0 0)] ∧ H = [.box [.c (.r wv (cR lv)), .c (I s.st), .c (I s.x), .c (I s.y), .c (.r vs (tR s.rows)), .c (I p.st), .c (I p.x), .c (I p.y), .c (.r vp (tR p.rows))], .box [.c (I 0), .c (I 0), .c (I 0), .c (.r (.slice none 0 0) [])], .arr 28 4 0 (cR [])]) [some 0, some 1, none] (fun _ => [(1, .p 0 0 0), (2, .p 1 0 0), (4, .o 2 0 0 0)]) (fun _ => [.box [.c (.r wv (cR lv)), .c (I s.st), .c (I s.x), .c (I s.y), .c (.r vs (tR s.rows)), .c (I p.st), .c (I p.x), .c (I p.y), .c (.r vp (tR p.rows))], .box [.c (I 0), .c (I 0), .c (I 0), .c (.r (.slice none 0 0) [])], .arr 28 4 0 (cR [])]) (by decide) (ZNL hE) ZCF ZCH (fun _ => ⟨rfl, rfl⟩)) ?_
 rintro F H ⟨rfl, rfl⟩
 obtain ⟨all, hall⟩ : ∃ all, all = lv ++ [(vs, s), (vp, p)] := ⟨_, rfl⟩
 refine aw_cut (fun F H => ∃ vo, F = [(2, .p 0 0 0), (4, .c (.r vo (cR all)))] ∧ H = [.box [.c (I 0), .c (I 0), .c (I 0), .c (.r (.slice none 0 0) [])]]) ?_ ?_ wk_aw
 ·refine ZZ ?_
  refine aw_regionM [[(0, none), (1, none), (2, none), (4, none), (5, none), (6, none), (7, none), (3, some [4, 5, 6, 7]), (8, some [0, 1, 2]), (9, some []), (10, none)], [(0, none), (1, none), (2, none), (4, none), (5, none), (6, none), (7, none), (8, some [0, 1, 2]), (3, some [4, 5, 6, 7]), (9, some []), (10, none)]] hMixed (by kernel_rfl) ?_
  focus
   refine WM ?_
   refine am_two (by rfl) (by rfl) (by rfl) ?_ ?_
   rotate_left
   refine WM ?_
   refine am_ef (i := 3) (by rfl) (by rfl) rfl rfl (Zapp (KA (t := 58) rfl) (hsrc := Src.ro hlv4 hlv1)) ?_
   rintro _ _ ⟨_, cc, hcc, rfl, rfl⟩
   refine ⟨AGX, ?_⟩
   refine am_ef (i := 9) (by rfl) (by rfl) rfl rfl (Zapp (KA (t := 58) rfl)) ?_
   rintro _ _ ⟨_, cc, hcc, rfl, rfl⟩
   refine ⟨AGX, ?_⟩
   refine WN ?_
   rotate_right
   refine am_ef (i := 3) (by rfl) (by rfl) rfl rfl (Zapp (KA (t := 58) rfl) (hsrc := Src.ro hlv4 hlv1)) ?_
   rintro _ _ ⟨_, cc, hcc, rfl, rfl⟩
   refine ⟨AGX, ?_⟩
   refine WM ?_
   refine am_ef (i := 9) (by rfl) (by rfl) rfl rfl (Zapp (KA (t := 58) rfl)) ?_
   rintro _ _ ⟨_, cc, hcc, rfl, rfl⟩
   refine ⟨AGX, ?_⟩
   refine WN ?_
  all_goals exact wk_of [some 1] (fun g => [(2, .p 0 0 0), (4, .c (.r (g (.o 2 0 _ _)) (cR all)))]) (fun _ => [.box [.c (I 0), .c (I 0), .c (I 0), .c (.r (.slice none 0 0) [])]]) (by decide) (ZNL hE) (fun _ => .cons rfl (.p rfl) (.cons rfl (.frz (b := 2) rfl rfl (by rw [List.drop_zero, List.take_of_length_le (by simp), hall]; simp) (by rw [hall]; simp) rfl) .nil)) ZCH (fun _ => ⟨_, rfl, rfl⟩)
 rintro F H ⟨vo, rfl, rfl⟩
 have hal : all.map Prod.snd = (lv ++ [(vs, s), (vp, p)]).map Prod.snd := by rw [hall]
 have hlen : all.length = lv.length + 2 := by rw [hall]; simp
 have hra : ∀ q ∈ all, q.2.rows.length ≤ 1000000000 ∧ ∀ r ∈ q.2.rows, r.length ≤ 1000000000 := by rw [hall]; exact hr
 rw [← hal]
 clear hr hal hlv4 hlv1
 have hl1 : all.length ≤ 1000000 := by omega
 have e1 : (cR all).length = all.length := by simp
 refine WA ?_
 refine aw_loopw (fun m F H => ∃ k : Nat, m + k = all.length ∧ fstF ((all.map Prod.snd).drop k) = fstF (all.map Prod.snd) ∧ F = [(2, .p 0 0 0), (4, .c (.r vo (cR all))), (26, .c (.r vo (cR all))), (27, .c (I (cR all).length)), (28, .c (I k))] ∧ H = [.box [.c (I 0), .c (I 0), .c (I 0), .c (.r (.slice none 0 0) [])]]) ?_ ?_
 ·refine wk_of [some 0] (fun _ => [(2, .p 0 0 0), (4, .c (.r vo (cR all))), (26, .c (.r vo (cR all))), (27, .c (I (cR all).length)), (28, .c (I (0 : Nat)))]) (fun _ => [.box [.c (I 0), .c (I 0), .c (I 0), .c (.r (.slice none 0 0) [])]]) (by decide) (ZNL hE) ZCF ZCH (fun _ => ?_)
  exact ⟨all.length, 0, by omega, rfl, rfl, rfl⟩
 ·rintro m F H ⟨k, hk, hfst, rfl, rfl⟩
  refine WA ?_
  refine aw_if rfl (fun hlt => ?_) (fun hge => ?_)
  ·obtain ⟨⟨w, c⟩, hz⟩ : ∃ e, all[k]? = some e := ⟨_, List.getElem?_eq_getElem (by omega)⟩
   have hrow : (cR all)[k]? = some (celR w c) := by rw [List.getElem?_map, hz]; rfl
   have hzc : (all.map Prod.snd)[k]? = some c := by rw [List.getElem?_map, hz]; rfl
   obtain ⟨hcl, hcr⟩ := hra _ (List.mem_of_getElem? hz)
   have hd := fstF_drop hzc
   refine WA ?_
   refine WR ?_
   refine al_ef rfl (ef_call0 false (fun _ => check_v w c hcl hcr) rfl .fn rfl (by decide) (by kernel_rfl) rfl (fun _ => C0 rfl) (by simp)) ?_
   rintro _ _ ⟨_, _, _, ⟨rfl, rfl⟩, hF, hH⟩
   (refine NST hF hH ?_; clear hF hH; rintro rfl rfl)
   refine WE ?_
   generalize hq : celF c = q at *
   refine WA ?_
   refine aw_if rfl (fun hq0 => ?_) (fun hq0 => ?_)
   ·rw [if_pos (by omega)] at hd
    have hwf : wholeF (all.map Prod.snd) = (zc, q) := by
     rw [hd] at hfst
     unfold wholeF
     rw [← hfst, if_pos (by omega)]
    refine WA ?_
    exact aret_of (us := [.a [.c (I 0), .c (I 0), .c (I 0), .c (.r (.slice none 0 0) [])], .c (I (q))]) [] (fun g' => .t [.a [.c (I 0), .c (I 0), .c (I 0), .c (.r (.slice none 0 0) [])], .c (I (q))]) (fun _ => []) (.cella (n := 4) rfl (by kernel_rfl) (Cells.box rfl) (by simp) (by (try simp only [nm, putL, Nat.reduceAdd, cellsOf, cvOf]) <;> rfl) (.tmp rfl .nil)) (by decide) (fun i hi => absurd hi (Nat.not_lt_zero i)) (fun g' => .tL (.cons (.aL (.cons (.c rfl) (.cons (.c rfl) (.cons (.c rfl) (.cons (.c rfl) .nil))))) (.cons (.c rfl) .nil))) (fun _ => .nil) (fun g' => ⟨.slice none 0 0, by rw [hwf]; rfl, rfl⟩)
   ·rw [if_neg (by omega)] at hd
    refine ZZ ?_
    refine WA ?_
    refine wk_of [some 0] (fun _ => [(2, .p 0 0 0), (4, .c (.r vo (cR all))), (26, .c (.r vo (cR all))), (27, .c (I (cR all).length)), (28, .c (I (k + 1 : Nat)))]) (fun _ => [.box [.c (I 0), .c (I 0), .c (I 0), .c (.r (.slice none 0 0) [])]]) (by decide) (ZNL hE) ZCF ZCH (fun _ => ?_)
    exact ⟨m - 1, by omega, k + 1, by omega, by rw [← hd, hfst], rfl, rfl⟩
  obtain rfl : k = all.length := by omega
  rw [List.drop_eq_nil_of_le (by simp)] at hfst
  have hf0 : fstF (all.map Prod.snd) = 0 := hfst.symm
  have hrc : ∀ q ∈ all, RCel q.2 := fun q hq => fstF_0 hf0 _ (List.mem_map_of_mem hq)
  clear hfst hra
  obtain ⟨v0, c0, rest, hcons⟩ : ∃ v0 c0 rest, all = (v0, c0) :: rest := by
   cases hh : all with
   | nil => rw [hh] at hlen; simp at hlen
   | cons a l => exact ⟨a.1, a.2, l, rfl⟩
  have hss := samestep_v vo v0 c0 rest (by rw [← hcons]; omega)
  rw [← hcons] at hss
  obtain ⟨bs, hbs⟩ : ∃ b, sameB (all.map Prod.snd) = b := ⟨_, rfl⟩
  refine ZZ ?_
  cases bs with
  | false =>
   have hwf : wholeF (all.map Prod.snd) = (zc, 3) := by
    unfold wholeF
    rw [if_neg (by omega), if_pos hbs]
   refine WR ?_
   refine al_ef rfl (ef_call0 false (fun _ => hss) rfl .fn rfl (by decide) (by kernel_rfl) rfl (fun _ => C0 rfl) (by simp)) ?_
   rintro _ _ ⟨_, _, _, ⟨rfl, rfl⟩, hF, hH⟩
   rw [hbs] at hF
   (refine NST hF hH ?_; clear hF hH; rintro rfl rfl)
   refine WE ?_
   refine aw_cond_t rfl ?_
   refine WA ?_
   exact aret_of (us := [.a [.c (I 0), .c (I 0), .c (I 0), .c (.r (.slice none 0 0) [])], .c (I (3))]) [] (fun g' => .t [.a [.c (I 0), .c (I 0), .c (I 0), .c (.r (.slice none 0 0) [])], .c (I (3))]) (fun _ => []) (.cella (n := 4) rfl (by kernel_rfl) (Cells.box rfl) (by simp) (by (try simp only [nm, putL, Nat.reduceAdd, cellsOf, cvOf]) <;> rfl) (.tmp rfl .nil)) (by decide) (fun i hi => absurd hi (Nat.not_lt_zero i)) (fun g' => .tL (.cons (.aL (.cons (.c rfl) (.cons (.c rfl) (.cons (.c rfl) (.cons (.c rfl) .nil))))) (.cons (.c rfl) .nil))) (fun _ => .nil) (fun g' => ⟨.slice none 0 0, by rw [hwf]; rfl, rfl⟩)
  | true =>
   have hst := sameB_t hbs
   refine WR ?_
   refine al_ef rfl (ef_call0 false (fun _ => hss) rfl .fn rfl (by decide) (by kernel_rfl) rfl (fun _ => C0 rfl) (by simp)) ?_
   rintro _ _ ⟨_, _, _, ⟨rfl, rfl⟩, hF, hH⟩
   rw [hbs] at hF
   (refine NST hF hH ?_; clear hF hH; rintro rfl rfl)
   refine WE ?_
   refine aw_cond_f rfl ?_
   refine ZZ ?_
   have hdup : wholeF (all.map Prod.snd) = if dupT false [] ((all.map Prod.snd).flatMap fun c => covG (grdOf c)) = true then (zc, 13) else foldU ((all.map Prod.snd).headD zc) (all.map Prod.snd).tail := by
    unfold wholeF
    rw [if_neg (by omega), if_neg (by rw [hbs]; simp)]
   refine aw_cut (fun F H => F = [(2, .p 0 0 0), (4, .c (.r vo (cR all))), (8, .p 1 0 0)] ∧ H = [.box [.c (I 0), .c (I 0), .c (I 0), .c (.r (.slice none 0 0) [])], .box [.mp 2], mpO encP encT [] 0]) ?_ ?_ wk_aw
   ·refine ZR ?_
    refine al_ef rfl (ef_mkmap rfl rfl (by decide)) ?_
    rintro _ _ ⟨rfl, rfl⟩
    refine WE ?_
    all_goals (first
     | exact wk_of [some 0, some 1, some 2] (fun _ => [(2, .p 0 0 0), (4, .c (.r vo (cR all))), (8, .p 1 0 0)]) (fun _ => [.box [.c (I 0), .c (I 0), .c (I 0), .c (.r (.slice none 0 0) [])], .box [.mp 2], mpO encP encT [] 0]) (by decide) (ZNL hE) ZCF ZCH (fun _ => ⟨rfl, rfl⟩)
     | exact wk_of [some 0, some 2, some 1] (fun _ => [(2, .p 0 0 0), (4, .c (.r vo (cR all))), (8, .p 1 0 0)]) (fun _ => [.box [.c (I 0), .c (I 0), .c (I 0), .c (.r (.slice none 0 0) [])], .box [.mp 2], mpO encP encT [] 0]) (by decide) (ZNL hE) ZCF ZCH (fun _ => ⟨rfl, rfl⟩))
   rintro F H ⟨rfl, rfl⟩
   refine WA ?_
   refine aw_loopw (fun m F H => ∃ (k : Nat) (es : SE) (ck : Nat), m + k = all.length ∧ SetOk es ck (((all.map Prod.snd).take k).flatMap fun c => covG (grdOf c)) ∧ dupT false [] (((all.map Prod.snd).take k).flatMap fun c => covG (grdOf c)) = false ∧ F = [(2, .p 0 0 0), (4, .c (.r vo (cR all))), (8, .p 1 0 0), (44, .c (.r vo (cR all))), (45, .c (I (cR all).length)), (46, .c (I k))] ∧ H = [.box [.c (I 0), .c (I 0), .c (I 0), .c (.r (.slice none 0 0) [])], .box [.mp 2], mpO encP encT es ck]) ?_ ?_
   ·refine wk_of [some 0, some 1, some 2] (fun _ => [(2, .p 0 0 0), (4, .c (.r vo (cR all))), (8, .p 1 0 0), (44, .c (.r vo (cR all))), (45, .c (I (cR all).length)), (46, .c (I (0 : Nat)))]) (fun _ => [.box [.c (I 0), .c (I 0), .c (I 0), .c (.r (.slice none 0 0) [])], .box [.mp 2], mpO encP encT [] 0]) (by decide) (ZNL hE) ZCF ZCH (fun _ => ?_)
    exact ⟨all.length, 0, [], 0, by omega, by rw [List.take_zero]; exact .nil, by rw [List.take_zero]; rfl, rfl, rfl⟩
   ·rintro m F H ⟨k, es, ck, hk, hok, hnd, rfl, rfl⟩
    refine WA ?_
    refine aw_if rfl (fun hlt => ?_) (fun hge => ?_)
    ·obtain ⟨⟨w, c⟩, hz⟩ : ∃ e, all[k]? = some e := ⟨_, List.getElem?_eq_getElem (by omega)⟩
     have hrow : (cR all)[k]? = some (celR w c) := by rw [List.getElem?_map, hz]; rfl
     have hzc : (all.map Prod.snd)[k]? = some c := by rw [List.getElem?_map, hz]; rfl
     have hc : RCel c := hrc _ (List.mem_of_getElem? hz)
     have htk : (all.map Prod.snd).take (k + 1) = (all.map Prod.snd).take k ++ [c] := by rw [List.take_add_one, hzc]; rfl
     have hfm : ((all.map Prod.snd).take (k + 1)).flatMap (fun c => covG (grdOf c)) = ((all.map Prod.snd).take k).flatMap (fun c => covG (grdOf c)) ++ covG (grdOf c) := by rw [htk, List.flatMap_append]; simp
     have hda : dupT false [] (((all.map Prod.snd).take (k + 1)).flatMap fun c => covG (grdOf c)) = dupT false (((all.map Prod.snd).take k).flatMap fun c => covG (grdOf c)) (covG (grdOf c)) := by rw [hfm, dupT_app, hnd, List.nil_append]
     have hdt : dupT false [] (((all.map Prod.snd).take (k + 1)).flatMap fun c => covG (grdOf c)) = true → dupT false [] ((all.map Prod.snd).flatMap fun c => covG (grdOf c)) = true := fun h => by
      have e : (all.map Prod.snd).flatMap (fun c => covG (grdOf c)) = ((all.map Prod.snd).take (k + 1)).flatMap (fun c => covG (grdOf c)) ++ ((all.map Prod.snd).drop (k + 1)).flatMap (fun c => covG (grdOf c)) := by rw [← List.flatMap_append, List.take_append_drop]
      rw [e, dupT_app, h, dupT_true]
     rw [hda] at hdt
     refine WA ?_
     refine WA ?_
     refine WR ?_
     refine al_ef rfl (ef_call0 false (fun _ => gridof_v w c hc) rfl .fn rfl (by decide) (by kernel_rfl) rfl (fun _ => C0 rfl) (by simp)) ?_
     rintro _ _ ⟨_, _, _, ⟨pg, og, rfl, rfl⟩, hF, hH⟩
     (refine NST hF hH ?_; clear hF hH; rintro rfl rfl)
     refine WO ?_
     refine al_ef rfl (ef_call [4, 1, 2] (fun _ => [.box [.c (B false)], .box [.mp 2], mpO encP encT es ck]) false (fun _ => each_whole (grdOf c) pg og (grdOf_ok hc) es ck _ hok false) rfl .fn rfl (by decide) (by kernel_rfl) rfl ZCH (by decide) ZCH (by simp)) ?_
     rintro F1 H1 ⟨_, _, _, _, ⟨es', ck', hok', rfl, rfl⟩, hF, hH⟩
     (refine NSU hF hH ?_; clear hF hH; rintro rfl rfl)
     refine WE ?_
     rw [← hfm] at hok'
     generalize hdd : dupT false (((all.map Prod.snd).take k).flatMap fun c => covG (grdOf c)) (covG (grdOf c)) = dd at *
     refine WA ?_
     refine aw_cond rfl (fun hd1 => ?_) (fun hd1 => ?_)
     ·have hwf : wholeF (all.map Prod.snd) = (zc, 13) := by rw [hdup, if_pos (hdt (by simpa using hd1))]
      refine WA ?_
      exact aret_of (us := [.a [.c (I 0), .c (I 0), .c (I 0), .c (.r (.slice none 0 0) [])], .c (I (13))]) [] (fun g' => .t [.a [.c (I 0), .c (I 0), .c (I 0), .c (.r (.slice none 0 0) [])], .c (I (13))]) (fun _ => []) (.cella (n := 4) rfl (by kernel_rfl) (Cells.box rfl) (by simp) (by (try simp only [nm, putL, Nat.reduceAdd, cellsOf, cvOf]) <;> rfl) (.tmp rfl .nil)) (by decide) (fun i hi => absurd hi (Nat.not_lt_zero i)) (fun g' => .tL (.cons (.aL (.cons (.c rfl) (.cons (.c rfl) (.cons (.c rfl) (.cons (.c rfl) .nil))))) (.cons (.c rfl) .nil))) (fun _ => .nil) (fun g' => ⟨.slice none 0 0, by rw [hwf]; rfl, rfl⟩)
     ·refine ZZ ?_
      refine WA ?_
      refine wk_of [some 0, some 1, some 2] (fun _ => [(2, .p 0 0 0), (4, .c (.r vo (cR all))), (8, .p 1 0 0), (44, .c (.r vo (cR all))), (45, .c (I (cR all).length)), (46, .c (I (k + 1 : Nat)))]) (fun _ => [.box [.c (I 0), .c (I 0), .c (I 0), .c (.r (.slice none 0 0) [])], .box [.mp 2], mpO encP encT es' ck']) (by decide) (ZNL hE) ZCF ZCH (fun _ => ?_)
      exact ⟨m - 1, by omega, k + 1, es', ck', by omega, hok', by rw [hda]; simpa using hd1, rfl, rfl⟩
    obtain rfl : k = all.length := by omega
    rw [List.take_of_length_le (by simp)] at hnd
    rw [hnd, if_neg (by simp)] at hdup
    clear hok
    rw [hdup]
    refine ZZ ?_
    have hrow0 : (cR all)[0]? = some (celR v0 c0) := by rw [hcons]; rfl
    have hsl : ((cR all).take (cR all).length).drop 1 = cR rest := by rw [List.take_length, hcons]; rfl
    have hall4 : ∀ row ∈ cR all, row.length = 4 := fun row h => by
     obtain ⟨q, _, rfl⟩ := List.mem_map.1 h
     rfl
    have hrl : rest.length ≤ 1000000 := by rw [hcons] at hl1; simp at hl1; omega
    have e2 : (cR rest).length = rest.length := by simp
    have hrr : ∀ q ∈ rest, RCel q.2 ∧ q.2.st = c0.st := fun q hq => by
     have hm : q ∈ all := by rw [hcons]; exact List.mem_cons_of_mem _ hq
     refine ⟨hrc _ hm, ?_⟩
     have := hst q.2 (List.mem_map_of_mem hm)
     rw [hcons] at this
     exact this
    have hr0 : RCel c0 := hrc (v0, c0) (by rw [hcons]; exact List.mem_cons_self)
    have hge1 : 1 ≤ (cR all).length := by omega
    have hhd : (all.map Prod.snd).headD zc = c0 := by rw [hcons]; rfl
    have htl : (all.map Prod.snd).tail = rest.map Prod.snd := by rw [hcons]; rfl
    rw [hhd, htl]
    refine WA ?_
    refine ZR ?_
    refine WX1 ?_
    refine ZA (rd_slicerq (l := 1) (h := (cR all).length) (rows' := cR rest) hsl rfl (KE (t := 58) rfl) rfl hall4 (.inr ⟨_, _, _, rfl, rfl, rfl⟩) (.inl ⟨rfl, rfl⟩) (by omega) (Nat.le_refl _)) ?_
    refine WE ?_
    generalize subV vo 1 (cR all).length 4 = v2
    refine aw_loopw (fun m F H => ∃ (k : Nat) (v1 : Value) (o : Cel), m + k = rest.length ∧ RCel o ∧ o.st = c0.st ∧ foldU o ((rest.map Prod.snd).drop k) = foldU c0 (rest.map Prod.snd) ∧ F = [(2, .p 0 0 0), (12, .p 1 0 0), (61, .c (.r v2 (cR rest))), (62, .c (I (cR rest).length)), (63, .c (I k))] ∧ H = [.box [.c (I 0), .c (I 0), .c (I 0), .c (.r (.slice none 0 0) [])], celB v1 o]) ?_ ?_
    ·refine wk_of [some 0, some 3] (fun _ => [(2, .p 0 0 0), (12, .p 1 0 0), (61, .c (.r v2 (cR rest))), (62, .c (I (cR rest).length)), (63, .c (I (0 : Nat)))]) (fun _ => [.box [.c (I 0), .c (I 0), .c (I 0), .c (.r (.slice none 0 0) [])], celB v0 c0]) (by decide) (ZNL hE) ZCF ZCH (fun _ => ?_)
     exact ⟨rest.length, 0, v0, c0, by omega, hr0, rfl, rfl, rfl, rfl⟩
    ·rintro m F H ⟨k, v1, o, hk, ho, host, hfo, rfl, rfl⟩
     refine WA ?_
     refine aw_if rfl (fun hlt => ?_) (fun hge => ?_)
     ·obtain ⟨⟨w, c⟩, hz⟩ : ∃ e, rest[k]? = some e := ⟨_, List.getElem?_eq_getElem (by omega)⟩
      have hrow : (cR rest)[k]? = some (celR w c) := by rw [List.getElem?_map, hz]; rfl
      have hzc : (rest.map Prod.snd)[k]? = some c := by rw [List.getElem?_map, hz]; rfl
      obtain ⟨hc, hcst⟩ := hrr _ (List.mem_of_getElem? hz)
      have hoc : o.st = c.st := by rw [host]; exact hcst.symm
      have hd := foldU_drop (o := o) hzc
      have hn2 := normC_2 (L := covL o ++ covL c) ho.st
      obtain ⟨R, hR⟩ : ∃ R, normC o.st (covL o ++ covL c) = R := ⟨_, rfl⟩
      rw [hR] at hd hn2
      obtain ⟨u, e⟩ := R
      simp only at hd hn2
      refine WA ?_
      refine WA ?_
      refine WR ?_
      refine al_ef rfl (ef_call0 false (fun _ => union_v v1 w o c ho hc hoc) rfl .fn rfl (by decide) (by kernel_rfl) rfl (fun _ => C0 rfl) (by simp)) ?_
      rintro _ _ ⟨_, _, _, ⟨vu, rfl, rfl⟩, hF, hH⟩
      rw [hR] at hF
      (refine NST hF hH ?_; clear hF hH; rintro rfl rfl)
      refine WE ?_
      refine WA ?_
      refine aw_if rfl (fun he0 => ?_) (fun he0 => ?_)
      ·have hwf : foldU c0 (rest.map Prod.snd) = (zc, e) := by rw [← hfo, hd, if_pos (by omega)]
       refine WA ?_
       exact aret_of (us := [.a [.c (I 0), .c (I 0), .c (I 0), .c (.r (.slice none 0 0) [])], .c (I (e))]) [] (fun g' => .t [.a [.c (I 0), .c (I 0), .c (I 0), .c (.r (.slice none 0 0) [])], .c (I (e))]) (fun _ => []) (.cella (n := 4) rfl (by kernel_rfl) (Cells.box rfl) (by simp) (by (try simp only [nm, putL, Nat.reduceAdd, cellsOf, cvOf]) <;> rfl) (.tmp rfl .nil)) (by decide) (fun i hi => absurd hi (Nat.not_lt_zero i)) (fun g' => .tL (.cons (.aL (.cons (.c rfl) (.cons (.c rfl) (.cons (.c rfl) (.cons (.c rfl) .nil))))) (.cons (.c rfl) .nil))) (fun _ => .nil) (fun g' => ⟨.slice none 0 0, by rw [hwf]; rfl, rfl⟩)
      ·have he1 : e = 0 := by omega
       obtain ⟨hu, hus⟩ := hn2 he1
       refine ZZ ?_
       refine WA ?_
       refine wk_of [some 0, some 1] (fun _ => [(2, .p 0 0 0), (12, .p 1 0 0), (61, .c (.r v2 (cR rest))), (62, .c (I (cR rest).length)), (63, .c (I (k + 1 : Nat)))]) (fun _ => [.box [.c (I 0), .c (I 0), .c (I 0), .c (.r (.slice none 0 0) [])], celB vu u]) (by decide) (ZNL hE) ZCF ZCH (fun _ => ?_)
       exact ⟨m - 1, by omega, k + 1, vu, u, by omega, hu, by rw [hus, host], by rw [← hfo, hd, if_neg (by omega)], rfl, rfl⟩
     obtain rfl : k = rest.length := by omega
     rw [List.drop_eq_nil_of_le (by simp)] at hfo
     have hfo2 : foldU c0 (rest.map Prod.snd) = (o, 0) := hfo.symm
     rw [hfo2]
     refine ZZ ?_
     refine WA ?_
     exact aret_of (us := [celA v1 o, .c (I 0)]) [] (fun _ => .t [celA v1 o, .c (I 0)]) (fun _ => []) (.cella (n := 4) rfl (by kernel_rfl) (Cells.box rfl) (by simp) (by (try simp only [nm, putL, Nat.reduceAdd, cellsOf, cvOf]) <;> rfl) (.tmp rfl .nil)) (by decide) (fun i hi => absurd hi (Nat.not_lt_zero i)) (fun g' => .tL (.cons (.aL (.cons (.c rfl) (.cons (.c rfl) (.cons (.c rfl) (.cons (.c rfl) .nil))))) (.cons (.c rfl) .nil))) (fun _ => .nil) (fun g' => ⟨v1, rfl, rfl⟩)
end Go.Proofs.YtniolldgidgffaaGreatDoor

/- Fillings are whole: plain. -/
namespace Go.Proofs.YtniolldgidgffaaGreatDoor
theorem spt_injw {g : Grd} (hw : 0 < g.w) {i j : Nat} (h : spt g i = spt g j) : i = j := by
 unfold spt at h
 obtain ⟨h1, h2⟩ := Prod.mk.inj h
 have e1 := Nat.div_add_mod i g.w
 have e2 := Nat.div_add_mod j g.w
 have h3 : i % g.w = j % g.w := by omega
 have h4 : i / g.w = j / g.w := by omega
 rw [← e1, ← e2, h3, h4]
theorem covG_nodup {g : Grd} (hl : g.on.length = g.w * g.h) : (covG g).Nodup := by
 by_cases hw : g.w = 0
 ·have e : covG g = [] := List.eq_nil_iff_forall_not_mem.2 fun p hp => by
   obtain ⟨i, h1, _⟩ := covG_mem.1 hp
   have := (List.getElem?_eq_some_iff.1 h1).1
   rw [hl, hw] at this
   simp at this
  rw [e]; exact .nil
 ·unfold covG covK
  rw [List.nodup_iff_pairwise_ne, List.pairwise_map]
  refine List.Pairwise.imp ?_ (List.nodup_range.filter _)
  intro a b hab h
  exact hab (spt_injw (by omega) h)
theorem dupT_nodup : ∀ {L S : List Spot}, L.Nodup → (∀ p ∈ L, p ∉ S) → dupT false S L = false
 | [], _, _, _ => rfl
 | p :: L, S, h, hd => by
  rw [dupT, decide_eq_false (hd p List.mem_cons_self)]
  obtain ⟨h1, h2⟩ := List.nodup_cons.1 h
  refine dupT_nodup h2 fun q hq => ?_
  rw [List.mem_append, List.mem_singleton]
  rintro (e | e)
  ·exact hd q (List.mem_cons_of_mem _ hq) e
  ·subst e; exact h1 hq
end Go.Proofs.YtniolldgidgffaaGreatDoor

/- copy into an array of the call's own. -/
namespace Go.Proofs.YtniolldgidgffaaGreatDoor
open Go Go.RowKit
section
variable {P : Program} {N : Nat} {E : Env} {F : Fm} {H : List OB} {o : Oper} {S : Nat → Prop} {ρ : List (Option Nat)} {a : Act} {w : World}
end
end Go.Proofs.YtniolldgidgffaaGreatDoor

/- append of zeros to no rows, where there is no room; slices.overlaps of two blocks of the call's own. -/
namespace Go.Proofs.YtniolldgidgffaaGreatDoor
open Go Go.RowKit
section
variable {P : Program} {N : Nat} {E : Env} {F : Fm} {H : List OB} {o : Oper} {S : Nat → Prop} {ρ : List (Option Nat)} {a : Act} {w : World}
end
end Go.Proofs.YtniolldgidgffaaGreatDoor

/- append of zeros behind some rows, where there is no room. -/
namespace Go.Proofs.YtniolldgidgffaaGreatDoor
open Go Go.RowKit
section
variable {P : Program} {N : Nat} {E : Env} {F : Fm} {H : List OB} {o : Oper} {S : Nat → Prop} {ρ : List (Option Nat)} {a : Act} {w : World}
end
end Go.Proofs.YtniolldgidgffaaGreatDoor

/- Texts for the functions of package slices, at any type of elements; what they do to rows. -/
namespace Go.Proofs.YtniolldgidgffaaGreatDoor
open Go Go.RowKit
def OkR (sz : Nat) (R : List (List CV)) : Prop := ∀ row ∈ R, row.length = sz ∧ ∀ u ∈ row, u.one = true
section
variable {β : Type} {r : List β} {y z : β} {i : Nat}
end
end Go.Proofs.YtniolldgidgffaaGreatDoor

/- Ways through the centers of cells: plain. -/
namespace Go.Proofs.YtniolldgidgffaaGreatDoor
def onS (a b p : Spot) : Prop := (b.1 - a.1) * (p.2 - a.2) = (b.2 - a.2) * (p.1 - a.1) ∧ (min a.1 b.1 ≤ p.1 ∧ p.1 ≤ max a.1 b.1) ∧ (min a.2 b.2 ≤ p.2 ∧ p.2 ≤ max a.2 b.2)
theorem covG_box {g : Grd} (hl : g.on.length = g.w * g.h) {p : Spot} (hp : p ∈ covG g) : inBox g.x g.y g.w g.h p := by
 have h := (atG_iff hl (a := p.1) (b := p.2)).2 hp
 unfold atG at h
 simp only [Bool.and_eq_true, decide_eq_true_iff] at h
 unfold inBox
 omega
end Go.Proofs.YtniolldgidgffaaGreatDoor

/- A way over a grid, by value: pass. -/
-- NILC
namespace Go.Proofs.YtniolldgidgffaaGreatDoor
open Go Go.RowKit
set_option maxRecDepth 100000
section
variable {P : Program} {N : Nat} {E : Env} {F : Fm} {H : List OB} {o : Oper} {t yt : TypeId} {x y : Operand} {m n z : Int}
end
end Go.Proofs.YtniolldgidgffaaGreatDoor

/- A way over a grid, by value: pass. -/
-- NEWM
-- NILC
namespace Go.Proofs.YtniolldgidgffaaGreatDoor
open Go Go.RowKit
set_option maxRecDepth 100000
end Go.Proofs.YtniolldgidgffaaGreatDoor

/- What is wrong with paths that cover, by value: the program's pathsFault. -/
-- NEWM
namespace Go.Proofs.YtniolldgidgffaaGreatDoor
open Go Go.RowKit
set_option maxRecDepth 100000
end Go.Proofs.YtniolldgidgffaaGreatDoor

/- The cells through whose centers paths lead, by value: passed. -/
-- NEWM
-- NILC
namespace Go.Proofs.YtniolldgidgffaaGreatDoor
open Go Go.RowKit
set_option maxRecDepth 100000
end Go.Proofs.YtniolldgidgffaaGreatDoor

/- Covered, by value. -/
-- NEWM
-- NILC
namespace Go.Proofs.YtniolldgidgffaaGreatDoor
open Go Go.RowKit
set_option maxRecDepth 100000
instance (a b p : Spot) : Decidable (onS a b p) := by unfold onS; infer_instance
end Go.Proofs.YtniolldgidgffaaGreatDoor

/- Left, by value. -/
-- NEWM
-- NILC
namespace Go.Proofs.YtniolldgidgffaaGreatDoor
open Go Go.RowKit
set_option maxRecDepth 100000
end Go.Proofs.YtniolldgidgffaaGreatDoor

/- Fractions in lowest terms, by value: Lowest of the program and of its document. The same names as in XMf: import one of both. -/
namespace Go.Proofs.YtniolldgidgffaaGreatDoor
open Go Go.RowKit
set_option maxRecDepth 100000
end Go.Proofs.YtniolldgidgffaaGreatDoor

/- Density, by value. -/
-- NEWM
-- NILC
namespace Go.Proofs.YtniolldgidgffaaGreatDoor
open Go Go.RowKit
set_option maxRecDepth 100000
def cntG (g : Grd) (k : Nat) : Nat := (covK g k).length
def cntH (g h : Grd) (k : Nat) : Nat := ((covK g k).filter fun q => decide (q ∈ covG h)).length
theorem cnt_le {g h : Grd} : ∀ k : Nat, cntG g k ≤ k ∧ cntH g h k ≤ k
 | 0 => ⟨Nat.le_refl _, Nat.le_refl _⟩
 | k + 1 => by
  obtain ⟨h1, h2⟩ := cnt_le (g := g) (h := h) k
  unfold cntG cntH at *
  rw [covK_snoc]
  split
  ·rw [List.length_append, List.filter_append, List.length_append]
   have : ([spt g k].filter fun q => decide (q ∈ covG h)).length ≤ 1 := List.length_filter_le _ _
   simp only [List.length_cons, List.length_nil] at *
   omega
  ·rw [List.append_nil]; omega
end Go.Proofs.YtniolldgidgffaaGreatDoor

/- What is wrong with paths that cover, by value: the reference's WaysFault. -/
-- NEWM
namespace Go.Proofs.YtniolldgidgffaaGreatDoor
open Go Go.RowKit
set_option maxRecDepth 100000
end Go.Proofs.YtniolldgidgffaaGreatDoor

/- Whether paths lead through a point, by value: the reference's on and led. -/
-- NEWM
-- NILC
namespace Go.Proofs.YtniolldgidgffaaGreatDoor
open Go Go.RowKit
set_option maxRecDepth 100000
end Go.Proofs.YtniolldgidgffaaGreatDoor

/- Whether paths lead through a point, by value: the reference's led. -/
-- NEWM
namespace Go.Proofs.YtniolldgidgffaaGreatDoor
open Go Go.RowKit
set_option maxRecDepth 100000
end Go.Proofs.YtniolldgidgffaaGreatDoor

/- A struct that a closed pointer points to is loaded; the center of a cell; the reference's Covered and Left, by value. -/
-- NEWM
-- NILC
namespace Go.Proofs.YtniolldgidgffaaGreatDoor
open Go Go.RowKit
set_option maxRecDepth 100000
end Go.Proofs.YtniolldgidgffaaGreatDoor

/- The reference's CoveredOf and LeftOf, by value. -/
-- NILC
namespace Go.Proofs.YtniolldgidgffaaGreatDoor
open Go Go.RowKit
set_option maxRecDepth 100000
end Go.Proofs.YtniolldgidgffaaGreatDoor

/- Counting covered cells: plain. -/
namespace Go.Proofs.YtniolldgidgffaaGreatDoor
theorem hitR_nodup {y : Int} : ∀ {r : List UInt8} {x : Int}, (hitR x y r).Nodup
 | [], _ => by simp [hitR]
 | b :: r, x => by
  have ih := hitR_nodup (y := y) (r := r) (x := x + 1)
  have hm : (x, y) ∉ hitR (x + 1) y r := fun h => by
   obtain ⟨k, _, e⟩ := hitR_mem.1 h
   have := (Prod.mk.inj e).1
   omega
  unfold hitR
  split
  ·exact List.nodup_cons.2 ⟨hm, ih⟩
  ·exact ih
theorem hitC_nodup {x : Int} : ∀ {rs : List (List UInt8)} {y : Int}, (hitC x y rs).Nodup
 | [], _ => by simp [hitC]
 | r :: rs, y => by
  rw [hitC]
  refine List.nodup_append.2 ⟨hitR_nodup, hitC_nodup, fun a ha b hb e => ?_⟩
  subst e
  obtain ⟨k, _, e1⟩ := hitR_mem.1 ha
  obtain ⟨i, k2, r2, _, _, e2⟩ := hitC_mem.1 hb
  rw [e1] at e2
  have := (Prod.mk.inj e2).2
  omega
theorem covL_nodup {c : Cel} : (covL c).Nodup := hitC_nodup
theorem len_mem {A D : List Spot} (h1 : A.Nodup) (h2 : D.Nodup) (h : ∀ p, p ∈ A ↔ p ∈ D) : A.length = D.length := ((List.perm_ext_iff_of_nodup h1 h2).2 h).length_eq
end Go.Proofs.YtniolldgidgffaaGreatDoor
