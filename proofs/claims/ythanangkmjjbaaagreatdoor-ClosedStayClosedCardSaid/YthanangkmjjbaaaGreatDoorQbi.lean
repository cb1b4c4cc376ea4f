/- Contours of the program, by value. -/
import Derived.Test.YthanangkmjjbaaaGreatDoorQbh
import Derived.Test.YthanangkmjjbaaaGreatDoorQbe
set_option linter.unusedSimpArgs false
set_option linter.unusedVariables false
/- Contours of the program, by value. -/
-- NEWM
namespace Go.Proofs.YthanangkmjjbaaaGreatDoor
open Go Go.RowKit
set_option maxRecDepth 100000
abbrev Con := List Sid2 × Bool
abbrev conRow (p : Value × Con) : List CV := [.r p.1 (sR p.2.1), B p.2.2]
abbrev cR (l : List (Value × Con)) : List (List CV) := l.map conRow
def conOf : List CV → Value × Con
  | [.r v rows, .s (.bool b)] => (v, (rows.map sidOf, b))
  | _ => (.pointer none, ([], false))
theorem sR_back (l : List Sid2) : (sR l).map sidOf = l := by
  rw [sR, List.map_map, show (sidOf ∘ Sid2.row) = id from funext fun s => rfl, List.map_id]
theorem conOf_row (p : Value × Con) : conOf (conRow p) = p := by
  obtain ⟨v, l, b⟩ := p
  simp only [conRow, conOf]
  rw [sR_back]
/-- The order of contours: by their first sides. -/
theorem conC_v (p q : Value × Con) (hp : p.2.1 ≠ []) (hq : q.2.1 ≠ []) : ACalls Tryz.prog 119 [.a ((conRow p).map .c), .a ((conRow q).map .c)] [] fun u H => u = .c (I (sidC (hdS p.2) (hdS q.2))) ∧ H = [] := by
  obtain ⟨v, l, b⟩ := p
  obtain ⟨v', l', b'⟩ := q
  cases l with
  | nil => exact absurd rfl hp
  | cons s l =>
    cases l' with
    | nil => exact absurd rfl hq
    | cons s' l' =>
      obtain ⟨sf, st⟩ := s
      obtain ⟨sf', st'⟩ := s'
      have hr1 : (sR ((⟨sf, st⟩ : Sid2) :: l))[0]? = some [I sf, I st] := rfl
      have hr2 : (sR ((⟨sf', st'⟩ : Sid2) :: l'))[0]? = some [I sf', I st'] := rfl
      refine acalls_of (N := 14) Tryz.func119 rfl rfl (by simp) fun E hE => ?_
      refine WA ?_
      refine ZZ ?_
      refine aw_regionT [(0, none), (1, none), (2, none), (3, none), (4, none), (5, none), (6, none), (7, none), (8, some []), (9, none)] hMixed (by kernel_rfl) ?_
      refine WP ?_
      refine at_ef rfl rfl (ef_call0 false (fun _ => cmpS_v ⟨sf, st⟩ ⟨sf', st'⟩) rfl .fn rfl (by decide) (by kernel_rfl) rfl (fun _ => C0 rfl) (by simp)) ?_
      rintro _ _ ⟨_, _, _, ⟨rfl, rfl⟩, hF, hH⟩
      (try simp only [nsl, Nat.reduceAdd, Nat.reduceLT, Nat.reduceSub] at hF); (try simp only [nsl, Nat.reduceAdd, Nat.reduceLT, Nat.reduceSub] at hH); subst hF; subst hH
      refine ⟨ag_none, ?_⟩
      refine WQ ?_
      all_goals exact aret_1 [] _ rfl rfl rfl (by decide) (ZNK rfl) (fun _ => .nil) ⟨rfl, rfl⟩
/-- slices.SortFunc of contours. -/
theorem sortCon_v (l : List (Value × Con)) (hne : ∀ p ∈ l, p.2.1 ≠ []) (c : Nat) (hl : l.length ≤ 1000000) :
    ACallsX true Tryz.prog 118 [.o 0 0 l.length c, .f (.func 119) []] [.arr 135 2 c (cR l)] fun u H => ∃ l' : List (Value × Con), u = .t [] ∧ H = [.arr 135 2 c (cR l')] ∧ l'.Perm l ∧ (l'.map Prod.snd).Pairwise leC := by
  have h := acalls_sort sortConL (k := 2) (fun w => Tryz.isAgg135 w) (fun w => Tryz.sizeOf135 w) (fun x => ∃ p : Value × Con, p.2.1 ≠ [] ∧ x = conRow p) (fun x y => sidC (hdS (conOf x).2) (hdS (conOf y).2)) (g := 119) (by kernel_rfl)
    (by rintro _ ⟨s, _, rfl⟩; rw [sidC_lt]; omega)
    (by rintro _ _ _ ⟨a, _, rfl⟩ ⟨b, _, rfl⟩ ⟨c, _, rfl⟩; simp only [sidC_lt]; omega)
    (by rintro _ _ _ ⟨a, _, rfl⟩ ⟨b, _, rfl⟩ ⟨c, _, rfl⟩; simp only [sidC_lt]; omega)
    (by rintro _ _ ⟨a, ha, rfl⟩ ⟨b, hb, rfl⟩; rw [conOf_row, conOf_row]; exact conC_v a b ha hb)
    (cR l) (by intro r hr; obtain ⟨p, hp, rfl⟩ := List.mem_map.1 hr; exact ⟨p, hne p hp, rfl⟩) (by simp; omega) (e := 135) (cap := c) (n := l.length) (c := c) (pn := true) (by simp)
  refine ACallsX.mono h fun u H => ?_
  rintro ⟨rows', rfl, rfl, hp, hs⟩
  have h2 := hp.map conOf
  rw [cR, List.map_map, show (conOf ∘ conRow) = id from funext conOf_row, List.map_id] at h2
  refine ⟨rows'.map conOf, rfl, ?_, h2, ?_⟩
  · congr 2
    rw [cR, List.map_map]
    refine (List.map_id _).symm.trans (List.map_congr_left fun r hr => ?_)
    obtain ⟨p, _, rfl⟩ := List.mem_map.1 (hp.subset hr)
    exact congrArg conRow (conOf_row p).symm
  · rw [List.map_map, List.pairwise_map]
    refine hs.imp fun {x y} h => leC_of ?_
    rw [sidC_lt] at h
    simp only [Function.comp]
    unfold leS
    omega
end Go.Proofs.YthanangkmjjbaaaGreatDoor
