/- The closed call of the package's own check of its parts: run by the executor. -/
import Derived.Test.YtcdeonjdipcgpaaGreatDoorQbp
import Derived.Test.YtcdeonjdipcgpaaGreatDoorProg
import Derived.Shelf.SlIter.Sorted
import Derived.Shelf.SortM.Plain
import Derived.Shelf.SortM.SortNone
import Derived.Test.YtcdeonjdipcgpaaGreatDoorQbw
import Derived.Test.YtcdeonjdipcgpaaGreatDoorQap
set_option linter.unusedSimpArgs false
set_option linter.unusedVariables false
namespace Go.Proofs.YtcdeonjdipcgpaaGreatDoor
section
open Go Go.RowKit Go.Maps Go.Sort Go.Shelf
set_option maxRecDepth 100000
def keysSSL_ren : Go.Shelf.Ren := ⟨fun | 7 => 108 | 10 => 165 | n => n, fun | 23 => 99 | 26 => 9 | 3 => 9 | 28 => 179 | 0 => 0 | 27 => 178 | 33 => 109 | 4 => 4 | n => n, fun | n => n⟩
theorem keysSSL : Go.Proofs.SlLaysZ.n7 Tryz.prog keysSSL_ren := {
 mixed := by kernel_rfl
 f7 := ⟨Tryz.f108.name, by decide, Tryz.func108.trans (congrArg some (by kernel_rfl))⟩
 f10 := ⟨Tryz.f165.name, by decide, Tryz.func165.trans (congrArg some (by kernel_rfl))⟩
 t0 := Tryz.underlying0
 a0 := Tryz.isAgg0
 z0 := Tryz.sizeOf0
 v0 := Tryz.zeroValue0
 t4 := Tryz.underlying4
 a4 := Tryz.isAgg4
 z4 := Tryz.sizeOf4
 v4 := Tryz.zeroValue4
 t23 := Tryz.underlying99
 a23 := Tryz.isAgg99
 z23 := Tryz.sizeOf99
 v23 := Tryz.zeroValue99
 t26 := Tryz.underlying9
 a26 := Tryz.isAgg9
 z26 := Tryz.sizeOf9
 v26 := Tryz.zeroValue9
 t27 := Tryz.underlying178
 a27 := Tryz.isAgg178
 z27 := Tryz.sizeOf178
 v27 := Tryz.zeroValue178
 t28 := Tryz.underlying179
 a28 := Tryz.isAgg179
 z28 := Tryz.sizeOf179
 v28 := Tryz.zeroValue179
 t33 := Tryz.underlying109
 a33 := Tryz.isAgg109
 z33 := Tryz.sizeOf109
 v33 := Tryz.zeroValue109 }
def sortedSL_ren : Go.Shelf.Ren := ⟨fun | 6 => 107 | 8 => 163 | 9 => 164 | 11 => 229 | 13 => 140 | 12 => 230 | 23 => 209 | 24 => 210 | 14 => 283 | 15 => 284 | 16 => 285 | 17 => 286 | 18 => 287 | 19 => 288 | 20 => 289 | 21 => 290 | 22 => 291 | 25 => 325 | 26 => 271 | 27 => 272 | 28 => 326 | 29 => 327 | 30 => 328 | 31 => 352 | n => n, fun | 26 => 9 | 28 => 179 | 24 => 71 | 0 => 0 | 3 => 3 | 37 => 210 | 48 => 262 | 50 => 265 | 4 => 4 | 40 => 277 | 39 => 276 | 45 => 170 | 5 => 5 | 9 => 9 | 51 => 346 | 55 => 350 | 57 => 393 | 58 => 394 | 33 => 109 | n => n, fun | n => n⟩
theorem sortedSL : Go.Proofs.SlLaysZ.n6 Tryz.prog sortedSL_ren := {
 mixed := by kernel_rfl
 f6 := ⟨Tryz.f107.name, by decide, Tryz.func107.trans (congrArg some (by kernel_rfl))⟩
 f8 := ⟨Tryz.f163.name, by decide, Tryz.func163.trans (congrArg some (by kernel_rfl))⟩
 f11 := ⟨Tryz.f229.name, by decide, Tryz.func229.trans (congrArg some (by kernel_rfl))⟩
 t0 := Tryz.underlying0
 a0 := Tryz.isAgg0
 z0 := Tryz.sizeOf0
 v0 := Tryz.zeroValue0
 t24 := Tryz.underlying71
 a24 := Tryz.isAgg71
 z24 := Tryz.sizeOf71
 v24 := Tryz.zeroValue71
 t26 := Tryz.underlying9
 a26 := Tryz.isAgg9
 z26 := Tryz.sizeOf9
 v26 := Tryz.zeroValue9
 t28 := Tryz.underlying179
 a28 := Tryz.isAgg179
 z28 := Tryz.sizeOf179
 v28 := Tryz.zeroValue179
 i26 := by kernel_rfl }
def sortSL_ren : Go.Shelf.Ren := ⟨fun | 6 => 164 | 8 => 140 | 9 => 230 | 19 => 209 | 20 => 210 | 21 => 283 | 22 => 284 | 23 => 285 | 24 => 286 | 25 => 287 | 26 => 288 | 27 => 289 | 28 => 290 | 29 => 291 | 36 => 325 | 31 => 271 | 32 => 272 | 37 => 326 | 38 => 327 | 39 => 328 | 41 => 352 | n => n, fun | 27 => 71 | 29 => 9 | 3 => 3 | 32 => 210 | 26 => 71 | 0 => 0 | 44 => 262 | 46 => 265 | 4 => 4 | 36 => 277 | 35 => 276 | 41 => 170 | 5 => 5 | 9 => 9 | 53 => 346 | 57 => 350 | 63 => 393 | 64 => 394 | n => n, fun | n => n⟩
theorem sortSL : Go.Proofs.SlLaysM.n6 Tryz.prog sortSL_ren := {
 mixed := by kernel_rfl
 f6 := ⟨Tryz.f164.name, by decide, Tryz.func164.trans (congrArg some (by kernel_rfl))⟩
 f8 := Tryz.func140.trans (congrArg some (by kernel_rfl))
 f9 := ⟨Tryz.f230.name, by decide, Tryz.func230.trans (congrArg some (by kernel_rfl))⟩
 f19 := Tryz.func209.trans (congrArg some (by kernel_rfl))
 f20 := Tryz.func210.trans (congrArg some (by kernel_rfl))
 f21 := ⟨Tryz.f283.name, by decide, Tryz.func283.trans (congrArg some (by kernel_rfl))⟩
 f22 := ⟨Tryz.f284.name, by decide, Tryz.func284.trans (congrArg some (by kernel_rfl))⟩
 f23 := ⟨Tryz.f285.name, by decide, Tryz.func285.trans (congrArg some (by kernel_rfl))⟩
 f24 := ⟨Tryz.f286.name, by decide, Tryz.func286.trans (congrArg some (by kernel_rfl))⟩
 f25 := ⟨Tryz.f287.name, by decide, Tryz.func287.trans (congrArg some (by kernel_rfl))⟩
 f26 := ⟨Tryz.f288.name, by decide, Tryz.func288.trans (congrArg some (by kernel_rfl))⟩
 f27 := ⟨Tryz.f289.name, by decide, Tryz.func289.trans (congrArg some (by kernel_rfl))⟩
 f28 := ⟨Tryz.f290.name, by decide, Tryz.func290.trans (congrArg some (by kernel_rfl))⟩
 f29 := ⟨Tryz.f291.name, by decide, Tryz.func291.trans (congrArg some (by kernel_rfl))⟩
 f31 := Tryz.func271.trans (congrArg some (by kernel_rfl))
 f32 := Tryz.func272.trans (congrArg some (by kernel_rfl))
 f36 := ⟨Tryz.f325.name, by decide, Tryz.func325.trans (congrArg some (by kernel_rfl))⟩
 f37 := ⟨Tryz.f326.name, by decide, Tryz.func326.trans (congrArg some (by kernel_rfl))⟩
 f38 := ⟨Tryz.f327.name, by decide, Tryz.func327.trans (congrArg some (by kernel_rfl))⟩
 f39 := ⟨Tryz.f328.name, by decide, Tryz.func328.trans (congrArg some (by kernel_rfl))⟩
 f41 := ⟨Tryz.f352.name, by decide, Tryz.func352.trans (congrArg some (by kernel_rfl))⟩
 t0 := Tryz.underlying0
 a0 := Tryz.isAgg0
 z0 := Tryz.sizeOf0
 v0 := Tryz.zeroValue0
 t3 := Tryz.underlying3
 a3 := Tryz.isAgg3
 z3 := Tryz.sizeOf3
 v3 := Tryz.zeroValue3
 t4 := Tryz.underlying4
 a4 := Tryz.isAgg4
 z4 := Tryz.sizeOf4
 v4 := Tryz.zeroValue4
 t5 := Tryz.underlying5
 a5 := Tryz.isAgg5
 z5 := Tryz.sizeOf5
 v5 := Tryz.zeroValue5
 t9 := Tryz.underlying9
 a9 := Tryz.isAgg9
 z9 := Tryz.sizeOf9
 v9 := Tryz.zeroValue9
 t26 := Tryz.underlying71
 a26 := Tryz.isAgg71
 z26 := Tryz.sizeOf71
 v26 := Tryz.zeroValue71
 t27 := Tryz.underlying71
 a27 := Tryz.isAgg71
 z27 := Tryz.sizeOf71
 v27 := Tryz.zeroValue71
 t29 := Tryz.underlying9
 a29 := Tryz.isAgg9
 z29 := Tryz.sizeOf9
 v29 := Tryz.zeroValue9
 t32 := Tryz.underlying210
 a32 := Tryz.isAgg210
 z32 := Tryz.sizeOf210
 v32 := Tryz.zeroValue210
 t35 := Tryz.underlying276
 a35 := Tryz.isAgg276
 z35 := Tryz.sizeOf276
 v35 := Tryz.zeroValue276
 t36 := Tryz.underlying277
 a36 := Tryz.isAgg277
 z36 := Tryz.sizeOf277
 v36 := Tryz.zeroValue277
 t41 := Tryz.underlying170
 a41 := Tryz.isAgg170
 z41 := Tryz.sizeOf170
 v41 := Tryz.zeroValue170
 t44 := Tryz.underlying262
 a44 := Tryz.isAgg262
 z44 := Tryz.sizeOf262
 v44 := Tryz.zeroValue262
 t46 := Tryz.underlying265
 a46 := Tryz.isAgg265
 z46 := Tryz.sizeOf265
 v46 := Tryz.zeroValue265
 t53 := Tryz.underlying346
 a53 := Tryz.isAgg346
 z53 := Tryz.sizeOf346
 v53 := Tryz.zeroValue346
 t57 := Tryz.underlying350
 a57 := Tryz.isAgg350
 z57 := Tryz.sizeOf350
 v57 := Tryz.zeroValue350
 t63 := Tryz.underlying393
 a63 := Tryz.isAgg393
 z63 := Tryz.sizeOf393
 v63 := Tryz.zeroValue393
 t64 := Tryz.underlying394
 a64 := Tryz.isAgg394
 z64 := Tryz.sizeOf394
 v64 := Tryz.zeroValue394 }
theorem sortsS (m : Nat) : AnyZ.SortsIn Tryz.prog sortedSL_ren Fence.wide m :=
 ⟨fun blk off cap ss W hH hblk hsz => callsIn_wide.2 (AnyM.slices_Sort_string sortSL blk off cap ss W hH hblk hsz),
  fun p cap W => callsIn_wide.2 (AnyM.slices_Sort_string_none sortSL p cap W)⟩
end
section
open Go Go.RowKit Go.Maps Go.Sort Go.Shelf
set_option maxRecDepth 100000
theorem sorted_raw {R : Value → Option (DataW Unit × List MemPlace)} (B b nn : Nat) (D0 : DataW Unit) (w : World) (hB : B < w.heap.size) (hm : w.cell? ⟨B, 0, none⟩ = some (.map (some b))) (hown : w.ownsMap Tryz.prog 9 R b nn D0) (hmax : Maps.size D0 ≤ maxLen) (hbytes : Maps.size D0 * 16 ≤ 140737488355328) :
    Calls Tryz.prog 107 #[.func (.func 165) #[] #[.pointer (some ⟨B, 0, none⟩)]] w fun e w' => (∃ (v : Value) (ss : List (List UInt8)), e = .returned v ∧ ss.Perm (strKeys D0) ∧
     w'.ownsRow w.heap.size 9 1 v ss.length ((ss.mergeSort (fun x y => decide (x ≤ y))).map encStr) ∧ Below w.heap.size w w') ∧ w.drawn ≤ w'.drawn := by
 have hseq : SeqGives Fence.wide 2 Tryz.prog 165 #[.pointer (some ⟨B, 0, none⟩)] encStr (fun ss => ss.Perm (strKeys D0)) (Maps.size D0) w :=
  AnyZ.keys_gives (ρ := keysSSL_ren) { keysSSL with } Fence.wide _ trivial rfl (by omega) B b nn D0 _ hB hm hown
 have cS := AnyZ.sorted_in sortedSL Fence.wide 5 trivial trivial trivial trivial rfl (by omega) (sortsS _) (enters_of Tryz.func164 (by kernel_rfl) rfl) 165 #[.pointer (some ⟨B, 0, none⟩)] trivial (enters_of Tryz.func165 (by kernel_rfl) rfl) _ _ hmax hbytes _ hseq
 refine calls_drawn (fun e w' ⟨v, ss, h, _⟩ => ⟨v, h⟩) ?_
 refine (callsIn_wide.1 cS).mono ?_
 rintro e w' ⟨v, ss, rfl, h1, h2, _, h4⟩
 exact ⟨v, ss, rfl, h1, h2, h4⟩
end
section
open Go Go.RowKit Go.Maps Go.Sort Go.Shelf Go.WideElems Go.WideMaps
set_option maxRecDepth 100000
theorem insert_perm {H : Type} (x : Lit × DataW H) : ∀ (l : List (Lit × DataW H)), (DataW.insert x l).Perm (x :: l)
 | [] => List.Perm.refl _
 | y :: r => by
  unfold DataW.insert
  split
  ·exact List.Perm.refl _
  ·exact ((insert_perm x r).cons y).trans (List.Perm.swap x y r)
theorem zL1 {H : Type} : ∀ (l : List (Lit × DataW H)), (l.foldr DataW.insert []).Perm l
 | [] => List.Perm.refl _
 | x :: l => (insert_perm x _).trans ((zL1 l).cons x)
def rdN : Value → Option (DataW Unit × List MemPlace) := fun _ => some (.nil, [])
theorem map_own {w : World} {b ck : Nat} {ms : Array MapEntry} {l : List (Nat × List UInt8 × List UInt8)} (hb : w.heap[b]? = some (.map ms ck)) (hms : ms.toList = l.map fun e => (⟨.string (bst e.2.1), .string (bst e.2.2), e.1⟩ : MapEntry)) (hok : MapOk l ck) (hl : l.length ≤ 1000000) (hk : ∀ e ∈ l, e.2.1.length ≤ 1000000) :
    ∃ D0 : DataW Unit, w.ownsMap Tryz.prog 9 rdN b ms.size D0 ∧ Maps.size D0 = l.length ∧ (strKeys D0).Perm (l.map (·.2.1)) := by
 have hrd : ∀ e ∈ l, Go.WideElems.rd Tryz.prog 9 rdN ⟨.string (bst e.2.1), .string (bst e.2.2), e.1⟩ = some (.string e.2.1, .nil) := fun e he => by
  have h1 : keyOf Tryz.prog 9 (.string (bst e.2.1)) = some (.string (bst e.2.1).data.toList) := keyOf_string_mk Tryz.underlying9 (by have := hk e he; rw [zz1]; exact Nat.le_trans this (by decide))
  have h2 := rd_mk (born := e.1) h1 (show rdN (.string (bst e.2.2)) = some (.nil, []) from rfl)
  rw [h2]
 have hF : Fit Tryz.prog 9 rdN ms ck := by
  refine ⟨?_, ⟨fun x hx => ?_, ?_, ?_⟩, fun x hx => ?_⟩
  ·have := congrArg List.length hms
   rw [List.length_map, Array.length_toList] at this
   rw [this]
   exact Nat.le_trans hl (by decide)
  ·rw [hms] at hx
   obtain ⟨e, he, rfl⟩ := List.mem_map.1 hx
   exact hok.hb e he
  ·rw [hms, List.map_map]
   exact hok.nb
  ·rw [hms, List.map_map]
   have h1 : l.Pairwise fun a b => a.2.1 ≠ b.2.1 := List.pairwise_map.1 hok.nk
   refine List.pairwise_map.2 (h1.imp fun {a b} hne e => hne ?_)
   have e2 : Value.string (bst a.2.1) = Value.string (bst b.2.1) := e
   injection e2 with e2
   have := congrArg (fun q : ByteArray => q.data.toList) e2
   simpa using this
  ·rw [hms] at hx
   obtain ⟨e, he, rfl⟩ := List.mem_map.1 hx
   exact ⟨_, hrd e he⟩
 refine ⟨_, ⟨ms, ck, hb, hF, Nat.le_refl _, rfl⟩, ?_, ?_⟩
 ·rw [Maps.size_eq, (zL1 _).length_eq, List.length_map, hms, List.length_map]
 ·show (((ms.toList.map (Go.WideElems.rg Tryz.prog 9 rdN)).foldr DataW.insert []).map fun p => strOf p.1).Perm _
  refine ((zL1 _).map _).trans ?_
  rw [hms, List.map_map, List.map_map]
  refine List.Perm.of_eq (List.map_congr_left fun e he => ?_)
  show strOf (Go.WideElems.rg Tryz.prog 9 rdN ⟨.string (bst e.2.1), .string (bst e.2.2), e.1⟩).1 = e.2.1
  rw [rg_of (hrd e he)]
  rfl
end
section
open Go Go.RowKit Go.Maps Go.Sort Go.Shelf
set_option maxRecDepth 100000
theorem sortedKeys_ok : SortedKeysOk := fun l ck hok hl hk S ρ w hR hW => by
 obtain ⟨B, ms, hB, hh, hms⟩ := mp_own (b := 0) hR rfl
 obtain ⟨B1, t, hB1, hh1, _⟩ := hR.blk 1 _ rfl
 have hbox : w.heap[B1]? = some (.cells #[.map (some B)] t (0, 0)) := by
  rw [hh1]
  simp [AV.den, hB]
 have hargs : ([AV.f (.func 165) [.p 1 0 0]].map (AV.den ρ [mSS l ck, .box [.mp 0]])).toArray = #[.func (.func 165) #[] #[.pointer (some ⟨B1, 0, none⟩)]] := by
  simp [AV.den, AV.denL, hB1]
  rfl
 obtain ⟨D0, hown, hsz, hkp⟩ := map_own hh hms hok hl hk
 rw [hargs]
 refine (sorted_raw B1 B ms.size D0 w (hR.lt 1 B1 hB1) (by simp [World.cell?, hbox]) hown (by rw [hsz]; exact Nat.le_trans hl (by decide)) (by rw [hsz]; omega)).mono ?_
 rintro e w' ⟨⟨v, ss, rfl, hp, hrow, hbl⟩, hd⟩
 have hss : (ss.mergeSort fun x y => decide (x ≤ y)) = srtK l := mergeSort_of_perm (hp.trans hkp)
 have hlen : ss.length = l.length := by rw [hp.length_eq, hkp.length_eq, List.length_map]
 rw [hss, hlen] at hrow
 have hkey : ∀ (m : Option Nat) (c : Nat), (∀ g, m = some g → w.heap.size ≤ g ∧ g < w'.heap.size) → (∀ ρ2 H2, OwnB w' S ρ2 H2 (.arr 9 1 c (kR (srtK l))) m) →
     RH w' S (ρ ++ [m]) [mSS l ck, .box [.mp 0], .arr 9 1 c (kR (srtK l))] := fun m c hm ho => by
  have hl2 : ρ.length = 2 := hR.len
  have a0 : atB (ρ ++ [m]) 0 = some B := by rw [zB, if_neg (by omega)]; exact hB
  have a1 : atB (ρ ++ [m]) 1 = some B1 := by rw [zB, if_neg (by omega)]; exact hB1
  have a2 : atB (ρ ++ [m]) 2 = m := by rw [zB, if_pos hl2.symm]
  have hold : ∀ i b, atB (ρ ++ [m]) i = some b → (m = some b ∧ i = 2) ∨ (atB ρ i = some b ∧ b < w.heap.size) := fun i b hi => by
   rw [zB] at hi
   split at hi
   ·rename_i h; exact .inl ⟨hi, h.trans hl2⟩
   ·exact .inr ⟨hi, hR.lt i b hi⟩
  refine ⟨by simp [hl2], fun i i' b h1 h2 => ?_, fun i b h1 hS => ?_, fun i b h1 => ?_, fun b hb => Nat.lt_of_lt_of_le (hR.sS b hb) hbl.size, fun i o hi => ?_, PL.none fun i k b ⟨o, h1, h2⟩ => ?_⟩
  ·rcases hold i b h1 with ⟨g1, g2⟩ | ⟨g1, g2⟩ <;> rcases hold i' b h2 with ⟨q1, q2⟩ | ⟨q1, q2⟩
   ·omega
   ·have := (hm b g1).1; omega
   ·have := (hm b q1).1; omega
   ·exact hR.nd i i' b g1 q1
  ·rcases hold i b h1 with ⟨g1, g2⟩ | ⟨g1, g2⟩
   ·have := (hm b g1).1; have := hR.sS b hS; omega
   ·exact hR.ap i b g1 hS
  ·rcases hold i b h1 with ⟨g1, g2⟩ | ⟨g1, g2⟩
   ·exact (hm b g1).2
   ·exact Nat.lt_of_lt_of_le g2 hbl.size
  ·match i, hi with
   | 0, hi =>
    simp only [List.getElem?_cons_zero, Option.some.injEq] at hi
    subst hi
    rw [a0]
    refine ⟨B, ms, rfl, by rw [hbl.block B (hR.lt 0 B hB)]; exact hh, by rw [hms, List.map_map]; rfl, fun e he => ?_⟩
    obtain ⟨x, _, rfl⟩ := List.mem_map.1 he
    exact .s _
   | 1, hi =>
    simp only [List.getElem?_cons_succ, List.getElem?_cons_zero, Option.some.injEq] at hi
    subst hi
    rw [a1]
    refine ⟨B1, t, rfl, by rw [hbl.block B1 (hR.lt 1 B1 hB1), hbox]; simp [AV.den, a0], fun x hx => ?_⟩
    rw [List.mem_singleton] at hx
    subst hx
    exact ⟨.mp (by simp) (by rw [a0]; rfl), rfl⟩
   | 2, hi =>
    simp only [List.getElem?_cons_succ, List.getElem?_cons_zero, Option.some.injEq] at hi
    subst hi
    rw [a2]
    exact ho _ _
   | i + 3, hi => simp at hi
  ·obtain ⟨l2, rfl⟩ := zD1 h2
   match i, h1 with
   | 0, h1 => simp at h1
   | 1, h1 => simp at h1
   | 2, h1 => simp at h1
   | i + 3, h1 => simp at h1
 have hl2 : ρ.length = 2 := hR.len
 have hfin : ∀ (m : Option Nat) (c : Nat), (∀ g, m = some g → w.heap.size ≤ g ∧ g < w'.heap.size) → (∀ ρ2 H2, OwnB w' S ρ2 H2 (.arr 9 1 c (kR (srtK l))) m) → v = .slice (m.map fun B => ⟨B, 0, none⟩) l.length c → l.length ≤ c → (m = none → l.length = 0 ∧ c = 0) →
     ∃ u H' ρ' S', Ending.returned v = .returned (AV.den ρ' H' u) ∧ (∃ c, l.length ≤ c ∧ u = .o 2 0 l.length c ∧ H' = [mSS l ck, .box [.mp 0], .arr 9 1 c (kR (srtK l))]) ∧ WF w' S' ρ' H' u ∧ RH w' S' ρ' H' ∧
      Stp w w' (fun B => (∃ i, atB ρ i = some B) ∨ ∃ i k, inP [mSS l ck, .box [.mp 0]] i k B) ∧ (∀ b, S' b → S b ∨ (w.heap.size ≤ b ∨ ∃ i k, inP [mSS l ck, .box [.mp 0]] i k b)) ∧ (∀ i B, atB ρ' i = some B → (w.heap.size ≤ B ∨ ∃ i k, inP [mSS l ck, .box [.mp 0]] i k B) ∨ (i < [mSS l ck, .box [.mp 0]].length ∧ atB ρ i = some B)) ∧
      (∀ i k B, inP H' i k B → w.heap.size ≤ B ∨ ∃ i k, inP [mSS l ck, .box [.mp 0]] i k B) ∧
      (∀ i, i < [mSS l ck, OB.box [.mp 0]].length → i < H'.length ∧ ∀ o, [mSS l ck, OB.box [.mp 0]][i]? = some o → o.shp ≠ 0 → atB ρ' i = atB ρ i ∧ ∃ o', H'[i]? = some o' ∧ o'.shp = o.shp) ∧
      (true = true → ∀ i, i < [mSS l ck, OB.box [.mp 0]].length → atB ρ' i = atB ρ i ∧ szAt H' i = szAt [mSS l ck, .box [.mp 0]] i ∧ capAt H' i = capAt [mSS l ck, .box [.mp 0]] i) := fun m c hm ho hv hc h3 => by
  have a2 : atB (ρ ++ [m]) 2 = m := by rw [zB, if_pos hl2.symm]
  have hat : ∀ i, i < 2 → atB (ρ ++ [m]) i = atB ρ i := fun i hi => by rw [zB, if_neg (by omega)]
  refine ⟨.o 2 0 l.length c, _, ρ ++ [m], S, ?_, ⟨c, hc, rfl, rfl⟩, .o (by simp) hc (by simp [capAt, OB.cap]) (fun h => h3 (by rw [← a2]; exact h)), hkey m c hm ho, ⟨hbl.os, hbl.tape, hbl.output, hbl.size, fun b h _ => hbl.block b h, hd⟩, fun b hb => .inl hb, fun i b hi => ?_, fun i k b hi => ?_, fun i hi => ?_, fun _ i hi => ?_⟩
  ·rw [hv]
   simp [AV.den, a2]
  ·rw [zB] at hi
   split at hi
   ·exact .inl (.inl (hm b hi).1)
   ·exact .inr ⟨by have := zz3 hi; rw [hl2] at this; exact this, hi⟩
  ·obtain ⟨o, h1, h2⟩ := hi
   obtain ⟨l2, rfl⟩ := zD1 h2
   match i, h1 with
   | 0, h1 => simp at h1
   | 1, h1 => simp at h1
   | 2, h1 => simp at h1
   | i + 3, h1 => simp at h1
  ·have hi2 : i < 2 := hi
   refine ⟨by simp; omega, fun o ho2 _ => ⟨hat i hi2, ?_⟩⟩
   match i, ho2, hi2 with
   | 0, ho2, _ => exact ⟨o, ho2, rfl⟩
   | 1, ho2, _ => exact ⟨o, ho2, rfl⟩
  ·have hi2 : i < 2 := hi
   match i, hi2 with
   | 0, _ => exact ⟨hat 0 (by omega), rfl, rfl⟩
   | 1, _ => exact ⟨hat 1 (by omega), rfl, rfl⟩
 rcases hrow.2 with ⟨hv, h0⟩ | ⟨g, cap, cur, hv, hg, hgb, hn, hcap, hcur, htk⟩
 ·have hk0 : kR (srtK l) = [] := List.eq_nil_of_length_eq_zero (by rw [List.length_map, za4]; exact h0)
  exact hfin none 0 (fun g h => by cases h) (fun ρ2 H2 => .inl ⟨rfl, rfl, hk0⟩) (by rw [hv, h0]; rfl) (by omega) fun _ => ⟨h0, rfl⟩
 ·refine hfin (some g) cap (fun q hq => ?_) (fun ρ2 H2 => .inr ⟨g, cur, rfl, hgb, hcur, hcap, by rw [List.length_map, za4]; exact hn, fun row hr => ?_, fun k j row u hk2 hj => ?_⟩) hv hn (fun h => by cases h)
  ·cases hq
   exact ⟨hg, (Array.getElem?_eq_some_iff.1 hgb).1⟩
  ·obtain ⟨s2, _, rfl⟩ := List.mem_map.1 hr
   refine ⟨rfl, fun u hu => ?_⟩
   rw [List.mem_singleton] at hu
   subst hu
   exact ⟨.s _, rfl⟩
  ·rw [List.getElem?_map] at hk2
   cases hs2 : (srtK l)[k]? with
   | none => rw [hs2] at hk2; cases hk2
   | some s2 =>
    rw [hs2] at hk2
    simp only [Option.map_some, Option.some.injEq] at hk2
    subst hk2
    match j, hj with
    | 0, hj =>
     simp only [List.getElem?_cons_zero, Option.some.injEq] at hj
     subst hj
     have h1 : (cur.toList.take (l.length * 1))[k]? = some (encStr s2) := by rw [htk, List.getElem?_map, hs2]; rfl
     rw [List.getElem?_take] at h1
     split at h1
     ·rw [Nat.mul_one, Nat.add_zero, ← Array.getElem?_toList]; exact h1
     ·cases h1
    | j + 1, hj => simp at hj
end
section
open Go
set_option maxRecDepth 1000000
theorem ready_run : xrun Tryz.prog xnone 37 = some (.bool true) := by kernel_rfl
theorem ready_a : ACalls Tryz.prog 37 [] [] fun u H => u = .c (B true) ∧ H = [] := acalls_of_xrun (by kernel_rfl) (xnone_ok _) (u := .bool true) ready_run
end
end Go.Proofs.YtcdeonjdipcgpaaGreatDoor
