/- Rounding, twice the area of a ring, and rings of contours, by value. -/
import Derived.Test.YtlblimbelfenaaaGreatQat
import Derived.Test.YtlblimbelfenaaaGreatQax
import Derived.Test.YtlblimbelfenaaaGreatQaw
set_option linter.unusedSimpArgs false
set_option linter.unusedVariables false
/- The library's contract of sorting lies at this program for segments and contours. -/
namespace Go.Proofs.YtlblimbelfenaaaGreat
open Go Go.Shelf
set_option maxRecDepth 100000
def sortSegL_ren : Go.Shelf.Ren := ⟨fun | 6 => 83 | 15 => 129 | 14 => 137 | 28 => 174 | 29 => 175 | 20 => 178 | 21 => 179 | 22 => 180 | 23 => 181 | 24 => 182 | 25 => 183 | 26 => 184 | 27 => 185 | 46 => 228 | 47 => 216 | 48 => 217 | 49 => 229 | 50 => 230 | 57 => 251 | n => n, fun | 22 => 50 | 24 => 77 | 25 => 134 | 3 => 3 | 39 => 179 | 0 => 0 | 53 => 220 | 55 => 222 | 4 => 4 | 46 => 213 | 45 => 212 | 50 => 217 | 5 => 5 | 9 => 9 | 66 => 247 | 70 => 251 | 76 => 270 | 77 => 42 | n => n, fun | n => n⟩
theorem sortSegL : Go.Proofs.SlLaysF0.n6 Tryz.prog sortSegL_ren := {
 mixed := by kernel_rfl
 f6 := ⟨Tryz.f83.name, by decide, Tryz.func83.trans (congrArg some (by kernel_rfl))⟩
 f14 := ⟨Tryz.f137.name, by decide, Tryz.func137.trans (congrArg some (by kernel_rfl))⟩
 f15 := Tryz.func129.trans (congrArg some (by kernel_rfl))
 f20 := ⟨Tryz.f178.name, by decide, Tryz.func178.trans (congrArg some (by kernel_rfl))⟩
 f21 := ⟨Tryz.f179.name, by decide, Tryz.func179.trans (congrArg some (by kernel_rfl))⟩
 f22 := ⟨Tryz.f180.name, by decide, Tryz.func180.trans (congrArg some (by kernel_rfl))⟩
 f23 := ⟨Tryz.f181.name, by decide, Tryz.func181.trans (congrArg some (by kernel_rfl))⟩
 f24 := ⟨Tryz.f182.name, by decide, Tryz.func182.trans (congrArg some (by kernel_rfl))⟩
 f25 := ⟨Tryz.f183.name, by decide, Tryz.func183.trans (congrArg some (by kernel_rfl))⟩
 f26 := ⟨Tryz.f184.name, by decide, Tryz.func184.trans (congrArg some (by kernel_rfl))⟩
 f27 := ⟨Tryz.f185.name, by decide, Tryz.func185.trans (congrArg some (by kernel_rfl))⟩
 f28 := Tryz.func174.trans (congrArg some (by kernel_rfl))
 f29 := Tryz.func175.trans (congrArg some (by kernel_rfl))
 f46 := ⟨Tryz.f228.name, by decide, Tryz.func228.trans (congrArg some (by kernel_rfl))⟩
 f47 := Tryz.func216.trans (congrArg some (by kernel_rfl))
 f48 := Tryz.func217.trans (congrArg some (by kernel_rfl))
 f49 := ⟨Tryz.f229.name, by decide, Tryz.func229.trans (congrArg some (by kernel_rfl))⟩
 f50 := ⟨Tryz.f230.name, by decide, Tryz.func230.trans (congrArg some (by kernel_rfl))⟩
 f57 := ⟨Tryz.f251.name, by decide, Tryz.func251.trans (congrArg some (by kernel_rfl))⟩
 t0 := Tryz.underlying0
 a0 := Tryz.isAgg0
 z0 := Tryz.sizeOf0
 v0 := Tryz.zeroValue0
 t3 := Tryz.underlying3
 a3 := Tryz.isAgg3
 z3 := Tryz.sizeOf3
 v3 := Tryz.zeroValue3
 t4 := Tryz.underlying4
 a4 := Tryz.isAgg4
 z4 := Tryz.sizeOf4
 v4 := Tryz.zeroValue4
 t5 := Tryz.underlying5
 a5 := Tryz.isAgg5
 z5 := Tryz.sizeOf5
 v5 := Tryz.zeroValue5
 t9 := Tryz.underlying9
 a9 := Tryz.isAgg9
 z9 := Tryz.sizeOf9
 v9 := Tryz.zeroValue9
 t22 := Tryz.underlying50
 a22 := Tryz.isAgg50
 z22 := Tryz.sizeOf50
 v22 := Tryz.zeroValue50
 t25 := Tryz.underlying134
 a25 := Tryz.isAgg134
 z25 := Tryz.sizeOf134
 v25 := Tryz.zeroValue134
 t39 := Tryz.underlying179
 a39 := Tryz.isAgg179
 z39 := Tryz.sizeOf179
 v39 := Tryz.zeroValue179
 t45 := Tryz.underlying212
 a45 := Tryz.isAgg212
 z45 := Tryz.sizeOf212
 v45 := Tryz.zeroValue212
 t46 := Tryz.underlying213
 a46 := Tryz.isAgg213
 z46 := Tryz.sizeOf213
 v46 := Tryz.zeroValue213
 t50 := Tryz.underlying217
 a50 := Tryz.isAgg217
 z50 := Tryz.sizeOf217
 v50 := Tryz.zeroValue217
 t53 := Tryz.underlying220
 a53 := Tryz.isAgg220
 z53 := Tryz.sizeOf220
 v53 := Tryz.zeroValue220
 t55 := Tryz.underlying222
 a55 := Tryz.isAgg222
 z55 := Tryz.sizeOf222
 v55 := Tryz.zeroValue222
 t66 := Tryz.underlying247
 a66 := Tryz.isAgg247
 z66 := Tryz.sizeOf247
 v66 := Tryz.zeroValue247
 t70 := Tryz.underlying251
 a70 := Tryz.isAgg251
 z70 := Tryz.sizeOf251
 v70 := Tryz.zeroValue251
 t76 := Tryz.underlying270
 a76 := Tryz.isAgg270
 z76 := Tryz.sizeOf270
 v76 := Tryz.zeroValue270
 t77 := Tryz.underlying42
 a77 := Tryz.isAgg42
 z77 := Tryz.sizeOf42
 v77 := Tryz.zeroValue42 }
def sortConL_ren : Go.Shelf.Ren := ⟨fun | 6 => 131 | 15 => 129 | 14 => 177 | 28 => 174 | 29 => 175 | 20 => 220 | 21 => 221 | 22 => 222 | 23 => 223 | 24 => 224 | 25 => 225 | 26 => 226 | 27 => 227 | 46 => 248 | 47 => 216 | 48 => 217 | 49 => 249 | 50 => 250 | 57 => 257 | n => n, fun | 22 => 124 | 24 => 127 | 25 => 185 | 3 => 3 | 39 => 179 | 0 => 0 | 53 => 220 | 55 => 222 | 4 => 4 | 46 => 213 | 45 => 212 | 50 => 217 | 5 => 5 | 9 => 9 | 66 => 247 | 70 => 251 | 76 => 270 | 77 => 42 | n => n, fun | n => n⟩
theorem sortConL : Go.Proofs.SlLaysF0.n6 Tryz.prog sortConL_ren := {
 mixed := by kernel_rfl
 f6 := ⟨Tryz.f131.name, by decide, Tryz.func131.trans (congrArg some (by kernel_rfl))⟩
 f14 := ⟨Tryz.f177.name, by decide, Tryz.func177.trans (congrArg some (by kernel_rfl))⟩
 f15 := Tryz.func129.trans (congrArg some (by kernel_rfl))
 f20 := ⟨Tryz.f220.name, by decide, Tryz.func220.trans (congrArg some (by kernel_rfl))⟩
 f21 := ⟨Tryz.f221.name, by decide, Tryz.func221.trans (congrArg some (by kernel_rfl))⟩
 f22 := ⟨Tryz.f222.name, by decide, Tryz.func222.trans (congrArg some (by kernel_rfl))⟩
 f23 := ⟨Tryz.f223.name, by decide, Tryz.func223.trans (congrArg some (by kernel_rfl))⟩
 f24 := ⟨Tryz.f224.name, by decide, Tryz.func224.trans (congrArg some (by kernel_rfl))⟩
 f25 := ⟨Tryz.f225.name, by decide, Tryz.func225.trans (congrArg some (by kernel_rfl))⟩
 f26 := ⟨Tryz.f226.name, by decide, Tryz.func226.trans (congrArg some (by kernel_rfl))⟩
 f27 := ⟨Tryz.f227.name, by decide, Tryz.func227.trans (congrArg some (by kernel_rfl))⟩
 f28 := Tryz.func174.trans (congrArg some (by kernel_rfl))
 f29 := Tryz.func175.trans (congrArg some (by kernel_rfl))
 f46 := ⟨Tryz.f248.name, by decide, Tryz.func248.trans (congrArg some (by kernel_rfl))⟩
 f47 := Tryz.func216.trans (congrArg some (by kernel_rfl))
 f48 := Tryz.func217.trans (congrArg some (by kernel_rfl))
 f49 := ⟨Tryz.f249.name, by decide, Tryz.func249.trans (congrArg some (by kernel_rfl))⟩
 f50 := ⟨Tryz.f250.name, by decide, Tryz.func250.trans (congrArg some (by kernel_rfl))⟩
 f57 := ⟨Tryz.f257.name, by decide, Tryz.func257.trans (congrArg some (by kernel_rfl))⟩
 t0 := Tryz.underlying0
 a0 := Tryz.isAgg0
 z0 := Tryz.sizeOf0
 v0 := Tryz.zeroValue0
 t3 := Tryz.underlying3
 a3 := Tryz.isAgg3
 z3 := Tryz.sizeOf3
 v3 := Tryz.zeroValue3
 t4 := Tryz.underlying4
 a4 := Tryz.isAgg4
 z4 := Tryz.sizeOf4
 v4 := Tryz.zeroValue4
 t5 := Tryz.underlying5
 a5 := Tryz.isAgg5
 z5 := Tryz.sizeOf5
 v5 := Tryz.zeroValue5
 t9 := Tryz.underlying9
 a9 := Tryz.isAgg9
 z9 := Tryz.sizeOf9
 v9 := Tryz.zeroValue9
 t22 := Tryz.underlying124
 a22 := Tryz.isAgg124
 z22 := Tryz.sizeOf124
 v22 := Tryz.zeroValue124
 t25 := Tryz.underlying185
 a25 := Tryz.isAgg185
 z25 := Tryz.sizeOf185
 v25 := Tryz.zeroValue185
 t39 := Tryz.underlying179
 a39 := Tryz.isAgg179
 z39 := Tryz.sizeOf179
 v39 := Tryz.zeroValue179
 t45 := Tryz.underlying212
 a45 := Tryz.isAgg212
 z45 := Tryz.sizeOf212
 v45 := Tryz.zeroValue212
 t46 := Tryz.underlying213
 a46 := Tryz.isAgg213
 z46 := Tryz.sizeOf213
 v46 := Tryz.zeroValue213
 t50 := Tryz.underlying217
 a50 := Tryz.isAgg217
 z50 := Tryz.sizeOf217
 v50 := Tryz.zeroValue217
 t53 := Tryz.underlying220
 a53 := Tryz.isAgg220
 z53 := Tryz.sizeOf220
 v53 := Tryz.zeroValue220
 t55 := Tryz.underlying222
 a55 := Tryz.isAgg222
 z55 := Tryz.sizeOf222
 v55 := Tryz.zeroValue222
 t66 := Tryz.underlying247
 a66 := Tryz.isAgg247
 z66 := Tryz.sizeOf247
 v66 := Tryz.zeroValue247
 t70 := Tryz.underlying251
 a70 := Tryz.isAgg251
 z70 := Tryz.sizeOf251
 v70 := Tryz.zeroValue251
 t76 := Tryz.underlying270
 a76 := Tryz.isAgg270
 z76 := Tryz.sizeOf270
 v76 := Tryz.zeroValue270
 t77 := Tryz.underlying42
 a77 := Tryz.isAgg42
 z77 := Tryz.sizeOf42
 v77 := Tryz.zeroValue42 }
def sortRonL_ren : Go.Shelf.Ren := ⟨fun | 6 => 92 | 15 => 129 | 14 => 138 | 28 => 174 | 29 => 175 | 20 => 186 | 21 => 187 | 22 => 188 | 23 => 189 | 24 => 190 | 25 => 191 | 26 => 192 | 27 => 193 | 46 => 231 | 47 => 216 | 48 => 217 | 49 => 232 | 50 => 233 | 57 => 252 | n => n, fun | 22 => 135 | 24 => 137 | 25 => 144 | 3 => 3 | 39 => 179 | 0 => 0 | 53 => 220 | 55 => 222 | 4 => 4 | 46 => 213 | 45 => 212 | 50 => 217 | 5 => 5 | 9 => 9 | 66 => 247 | 70 => 251 | 76 => 270 | 77 => 42 | n => n, fun | n => n⟩
theorem sortRonL : Go.Proofs.SlLaysF0.n6 Tryz.prog sortRonL_ren := {
 mixed := by kernel_rfl
 f6 := ⟨Tryz.f92.name, by decide, Tryz.func92.trans (congrArg some (by kernel_rfl))⟩
 f14 := ⟨Tryz.f138.name, by decide, Tryz.func138.trans (congrArg some (by kernel_rfl))⟩
 f15 := Tryz.func129.trans (congrArg some (by kernel_rfl))
 f20 := ⟨Tryz.f186.name, by decide, Tryz.func186.trans (congrArg some (by kernel_rfl))⟩
 f21 := ⟨Tryz.f187.name, by decide, Tryz.func187.trans (congrArg some (by kernel_rfl))⟩
 f22 := ⟨Tryz.f188.name, by decide, Tryz.func188.trans (congrArg some (by kernel_rfl))⟩
 f23 := ⟨Tryz.f189.name, by decide, Tryz.func189.trans (congrArg some (by kernel_rfl))⟩
 f24 := ⟨Tryz.f190.name, by decide, Tryz.func190.trans (congrArg some (by kernel_rfl))⟩
 f25 := ⟨Tryz.f191.name, by decide, Tryz.func191.trans (congrArg some (by kernel_rfl))⟩
 f26 := ⟨Tryz.f192.name, by decide, Tryz.func192.trans (congrArg some (by kernel_rfl))⟩
 f27 := ⟨Tryz.f193.name, by decide, Tryz.func193.trans (congrArg some (by kernel_rfl))⟩
 f28 := Tryz.func174.trans (congrArg some (by kernel_rfl))
 f29 := Tryz.func175.trans (congrArg some (by kernel_rfl))
 f46 := ⟨Tryz.f231.name, by decide, Tryz.func231.trans (congrArg some (by kernel_rfl))⟩
 f47 := Tryz.func216.trans (congrArg some (by kernel_rfl))
 f48 := Tryz.func217.trans (congrArg some (by kernel_rfl))
 f49 := ⟨Tryz.f232.name, by decide, Tryz.func232.trans (congrArg some (by kernel_rfl))⟩
 f50 := ⟨Tryz.f233.name, by decide, Tryz.func233.trans (congrArg some (by kernel_rfl))⟩
 f57 := ⟨Tryz.f252.name, by decide, Tryz.func252.trans (congrArg some (by kernel_rfl))⟩
 t0 := Tryz.underlying0
 a0 := Tryz.isAgg0
 z0 := Tryz.sizeOf0
 v0 := Tryz.zeroValue0
 t3 := Tryz.underlying3
 a3 := Tryz.isAgg3
 z3 := Tryz.sizeOf3
 v3 := Tryz.zeroValue3
 t4 := Tryz.underlying4
 a4 := Tryz.isAgg4
 z4 := Tryz.sizeOf4
 v4 := Tryz.zeroValue4
 t5 := Tryz.underlying5
 a5 := Tryz.isAgg5
 z5 := Tryz.sizeOf5
 v5 := Tryz.zeroValue5
 t9 := Tryz.underlying9
 a9 := Tryz.isAgg9
 z9 := Tryz.sizeOf9
 v9 := Tryz.zeroValue9
 t22 := Tryz.underlying135
 a22 := Tryz.isAgg135
 z22 := Tryz.sizeOf135
 v22 := Tryz.zeroValue135
 t25 := Tryz.underlying144
 a25 := Tryz.isAgg144
 z25 := Tryz.sizeOf144
 v25 := Tryz.zeroValue144
 t39 := Tryz.underlying179
 a39 := Tryz.isAgg179
 z39 := Tryz.sizeOf179
 v39 := Tryz.zeroValue179
 t45 := Tryz.underlying212
 a45 := Tryz.isAgg212
 z45 := Tryz.sizeOf212
 v45 := Tryz.zeroValue212
 t46 := Tryz.underlying213
 a46 := Tryz.isAgg213
 z46 := Tryz.sizeOf213
 v46 := Tryz.zeroValue213
 t50 := Tryz.underlying217
 a50 := Tryz.isAgg217
 z50 := Tryz.sizeOf217
 v50 := Tryz.zeroValue217
 t53 := Tryz.underlying220
 a53 := Tryz.isAgg220
 z53 := Tryz.sizeOf220
 v53 := Tryz.zeroValue220
 t55 := Tryz.underlying222
 a55 := Tryz.isAgg222
 z55 := Tryz.sizeOf222
 v55 := Tryz.zeroValue222
 t66 := Tryz.underlying247
 a66 := Tryz.isAgg247
 z66 := Tryz.sizeOf247
 v66 := Tryz.zeroValue247
 t70 := Tryz.underlying251
 a70 := Tryz.isAgg251
 z70 := Tryz.sizeOf251
 v70 := Tryz.zeroValue251
 t76 := Tryz.underlying270
 a76 := Tryz.isAgg270
 z76 := Tryz.sizeOf270
 v76 := Tryz.zeroValue270
 t77 := Tryz.underlying42
 a77 := Tryz.isAgg42
 z77 := Tryz.sizeOf42
 v77 := Tryz.zeroValue42 }
end Go.Proofs.YtlblimbelfenaaaGreat

/- Contours of the program, by value. -/
-- NEWM
namespace Go.Proofs.YtlblimbelfenaaaGreat
open Go Go.RowKit
set_option maxRecDepth 100000
abbrev Con := List Sid2 × Bool
abbrev conRow (p : Value × Con) : List CV := [.r p.1 (sR p.2.1), B p.2.2]
abbrev cR (l : List (Value × Con)) : List (List CV) := l.map conRow
def conOf : List CV → Value × Con
 | [.r v rows, .s (.bool b)] => (v, (rows.map sidOf, b))
 | _ => (.pointer none, ([], false))
theorem sR_back (l : List Sid2) : (sR l).map sidOf = l := by
 rw [sR, List.map_map, show (sidOf ∘ Sid2.row) = id from funext fun s => rfl, List.map_id]
theorem conOf_row (p : Value × Con) : conOf (conRow p) = p := by
 obtain ⟨v, l, b⟩ := p
 simp only [conRow, conOf]
 rw [sR_back]
theorem conC_v (p q : Value × Con) (hp : p.2.1 ≠ []) (hq : q.2.1 ≠ []) : ACalls Tryz.prog 132 [.a ((conRow p).map .c), .a ((conRow q).map .c)] [] fun u H => u = .c (I (sidC (hdS p.2) (hdS q.2))) ∧ H = [] := by
 obtain ⟨v, l, b⟩ := p
 obtain ⟨v', l', b'⟩ := q
 cases l with
 | nil => exact absurd rfl hp
 | cons s l =>
  cases l' with
  | nil => exact absurd rfl hq
  | cons s' l' =>
   obtain ⟨sf, st⟩ := s
   obtain ⟨sf', st'⟩ := s'
   have hr1 : (sR ((⟨sf, st⟩ : Sid2) :: l))[0]? = some [I sf, I st] := rfl
   have hr2 : (sR ((⟨sf', st'⟩ : Sid2) :: l'))[0]? = some [I sf', I st'] := rfl
   refine acalls_of (N := 14) Tryz.func132 rfl rfl (by simp) fun E hE => ?_
   refine WA ?_
   refine ZZ ?_
   refine aw_regionT [(0, none), (1, none), (2, none), (3, none), (4, none), (5, none), (6, none), (7, none), (8, some []), (9, none)] hMixed (by kernel_rfl) ?_
   refine WP ?_
   refine at_ef rfl rfl (ef_call0 false (fun _ => cmpS_v ⟨sf, st⟩ ⟨sf', st'⟩) rfl .fn rfl (by decide) (by kernel_rfl) rfl (fun _ => C0 rfl) (by simp)) ?_
   rintro _ _ ⟨_, _, _, ⟨rfl, rfl⟩, hF, hH⟩
   (refine NST hF hH ?_; clear hF hH; rintro rfl rfl)
   refine ⟨ag_none, ?_⟩
   refine WQ ?_
   all_goals exact aret_1 [] _ rfl rfl rfl (by decide) (ZNK rfl) (fun _ => .nil) ⟨rfl, rfl⟩
theorem sortCon_v (l : List (Value × Con)) (hne : ∀ p ∈ l, p.2.1 ≠ []) (c : Nat) (hl : l.length ≤ 1000000) :
    ACallsX true Tryz.prog 131 [.o 0 0 l.length c, .f (.func 132) []] [.arr 127 2 c (cR l)] fun u H => ∃ l' : List (Value × Con), u = .t [] ∧ H = [.arr 127 2 c (cR l')] ∧ l'.Perm l ∧ (l'.map Prod.snd).Pairwise leC := by
 have h := acalls_sort sortConL (k := 2) (fun w => Tryz.isAgg127 w) (fun w => Tryz.sizeOf127 w) (fun x => ∃ p : Value × Con, p.2.1 ≠ [] ∧ x = conRow p) (fun x y => sidC (hdS (conOf x).2) (hdS (conOf y).2)) (g := 132) (by kernel_rfl)
  (by rintro _ ⟨s, _, rfl⟩; rw [sidC_lt]; omega)
  (by rintro _ _ _ ⟨a, _, rfl⟩ ⟨b, _, rfl⟩ ⟨c, _, rfl⟩; simp only [sidC_lt]; omega)
  (by rintro _ _ _ ⟨a, _, rfl⟩ ⟨b, _, rfl⟩ ⟨c, _, rfl⟩; simp only [sidC_lt]; omega)
  (by rintro _ _ ⟨a, ha, rfl⟩ ⟨b, hb, rfl⟩; rw [conOf_row, conOf_row]; exact conC_v a b ha hb)
  (cR l) (by intro r hr; obtain ⟨p, hp, rfl⟩ := List.mem_map.1 hr; exact ⟨p, hne p hp, rfl⟩) (by simp; omega) (e := 127) (cap := c) (n := l.length) (c := c) (pn := true) (by simp)
 refine ACallsX.mono h fun u H => ?_
 rintro ⟨rows', rfl, rfl, hp, hs⟩
 have h2 := hp.map conOf
 rw [cR, List.map_map, show (conOf ∘ conRow) = id from funext conOf_row, List.map_id] at h2
 refine ⟨rows'.map conOf, rfl, ?_, h2, ?_⟩
 ·congr 2
  rw [cR, List.map_map]
  refine (List.map_id _).symm.trans (List.map_congr_left fun r hr => ?_)
  obtain ⟨p, _, rfl⟩ := List.mem_map.1 (hp.subset hr)
  exact congrArg conRow (conOf_row p).symm
 ·rw [List.map_map, List.pairwise_map]
  refine hs.imp fun {x y} h => leC_of ?_
  rw [sidC_lt] at h
  simp only [Function.comp]
  unfold leS
  omega
end Go.Proofs.YtlblimbelfenaaaGreat

/- Rounding, twice the area of a ring, and rings of contours, by value. -/
-- NEWM
namespace Go.Proofs.YtlblimbelfenaaaGreat
open Go Go.RowKit
set_option maxRecDepth 100000
section
variable {P : Program} {N : Nat} {E : Env} {F : Fm} {H : List OB} {o : Oper} {t yt : TypeId} {x y : Operand} {m n z : Int}
theorem rd_quoY (ho : o.op = .binOp .quo t x y yt) (hx : ev F x = some (.c (.s (.int .i64 m)))) (hy : ev F y = some (.c (.s (.int .i64 n)))) (h0 : n ≠ 0) (hz : wrap64 (m.tdiv n) = z) : Rd P N E o F H (.c (.s (.int .i64 z))) := by
 subst hz; exact rd_quo ho hx hy h0
theorem rd_remY (ho : o.op = .binOp .rem t x y yt) (hx : ev F x = some (.c (.s (.int .i64 m)))) (hy : ev F y = some (.c (.s (.int .i64 n)))) (h0 : n ≠ 0) (hz : m.tmod n = z) : Rd P N E o F H (.c (.s (.int .i64 z))) := by
 subst hz; exact rd_rem ho hx hy h0
end
theorem floor_q (x b : Int) (h2 : 1 ≤ b) : (x.tmod b < 0 → x / b = x.tdiv b - 1) ∧ (0 ≤ x.tmod b → x / b = x.tdiv b) := by
 have hd := Int.mul_tdiv_add_tmod x b
 have h1 : (x.tmod b).natAbs < b.natAbs := by rw [Int.natAbs_tmod]; exact Nat.mod_lt _ (by omega)
 constructor
 ·intro h
  refine ((Int.ediv_emod_unique (a := x) (r := x.tmod b + b) (show 0 < b by omega)).2 ⟨?_, by omega, by omega⟩).1
  rw [Int.mul_sub]; omega
 ·intro h
  refine ((Int.ediv_emod_unique (a := x) (r := x.tmod b) (show 0 < b by omega)).2 ⟨?_, by omega, by omega⟩).1
  omega
theorem kflo_v (x b : Int) (h0 : -9000000000000000000 ≤ x ∧ x ≤ 9000000000000000000) (h2 : 1 ≤ b ∧ b ≤ 9000000000000000000) : ACalls Tryz.prog 213 [.c (I x), .c (I b)] [] fun u H => u = .c (I (x / b)) ∧ H = [] := by
 have hq : (x.tdiv b).natAbs ≤ x.natAbs := Int.natAbs_tdiv_le_natAbs x b
 have e1 : wrap64 (x.tdiv b) = x.tdiv b := IntWalk.wrap64_in _ (by constructor <;> omega)
 obtain ⟨e3, e4⟩ := floor_q x b h2.1
 refine acalls_of (N := 16) Tryz.func213 rfl rfl (by simp) fun E hE => ?_
 refine WA ?_
 refine ZR ?_
 iterate 2 refine WX1 ?_
 refine ZA (rd_quoY (z := x.tdiv b) rfl rfl rfl (by omega) e1) ?_
 refine WE ?_
 refine ZR ?_
 iterate 2 refine WX1 ?_
 refine ZA (rd_remY (z := x.tmod b) rfl rfl rfl (by omega) rfl) ?_
 refine WE ?_
 refine aw_if rfl (fun hlt => ?_) (fun hge => ?_)
 ·refine WA ?_
  refine WA ?_
  exact aret_1 [] _ rfl rfl rfl (by decide) (ZNK rfl) (fun _ => .nil) ⟨by rw [e3 hlt], rfl⟩
 ·refine ZZ ?_
  refine WA ?_
  exact aret_1 [] _ rfl rfl rfl (by decide) (ZNK rfl) (fun _ => .nil) ⟨by rw [e4 (by omega)], rfl⟩
theorem rnd_v (f : Fra) (h1 : -1000000000000000 ≤ f.n ∧ f.n ≤ 1000000000000000) (h2 : 1 ≤ f.d ∧ f.d ≤ 1000000000000000) : ACalls Tryz.prog 157 [.a [.c (I f.n), .c (I f.d)]] [] fun u H => u = .c (I (nearF f)) ∧ H = [] := by
 obtain ⟨n, d⟩ := f
 simp only at h1 h2
 refine acalls_of (N := 13) Tryz.func157 rfl rfl (by simp) fun E hE => ?_
 refine WA ?_
 refine WR ?_
 refine al_ef rfl (ef_call0 false (fun _ => kflo_v (2 * n + d) (2 * d) (by omega) (by omega)) rfl .fn rfl (by decide) (by kernel_rfl) rfl (fun _ => C0 rfl) (by simp)) ?_
 rintro _ _ ⟨_, _, _, ⟨rfl, rfl⟩, hF, hH⟩
 (refine NST hF hH ?_; clear hF hH; rintro rfl rfl)
 refine WE ?_
 exact aret_1 [] _ rfl rfl rfl (by decide) (ZNK rfl) (fun _ => .nil) ⟨rfl, rfl⟩
abbrev P2.row (p : P2) : List CV := [I p.x, I p.y]
abbrev pR (l : List P2) : List (List CV) := l.map P2.row
theorem prow {l : List P2} {i : Nat} (h : i < l.length) : (pR l)[i]? = some [I (ptA l i).x, I (ptA l i).y] := by
 rw [List.getElem?_map, ptA_get h]; rfl
set_option maxHeartbeats 2000000 in
theorem pdbl_v (l : List P2) (v : Value) (hl : l.length ≤ 1000000) (hp : ∀ p ∈ l, p.in) : ACalls Tryz.prog 58 [.c (.r v (pR l))] [] fun u H => u = .c (I (dblF l)) ∧ H = [] := by
 have e1 : (pR l).length = l.length := by simp
 refine acalls_of (N := 37) Tryz.func58 rfl rfl (by simp) fun E hE => ?_
 refine WA ?_
 refine WA ?_
 refine WA ?_
 refine aw_loopw (fun m F H => ∃ (k : Nat), m + k = l.length ∧ F = [(0, .c (.r v (pR l))), (3, .c (I (dblN l k))), (7, .c (.r v (pR l))), (8, .c (I (pR l).length)), (9, .c (I k))] ∧ H = []) ?_ ?_
 ·refine wk_of [] (fun _ => [(0, .c (.r v (pR l))), (3, .c (I 0)), (7, .c (.r v (pR l))), (8, .c (I (pR l).length)), (9, .c (I (0 : Nat)))]) (fun _ => _) (by decide) (ZNL hE) ZCF (fun _ => .nil) (fun _ => ?_)
  exact ⟨l.length, 0, by omega, rfl, rfl⟩
 rintro m F H ⟨k, hk, rfl, rfl⟩
 refine WA ?_
 refine aw_if rfl (fun hlt => ?_) (fun hge => ?_)
 ·have hkl : k < l.length := by omega
  have hj : (k + 1) % l.length < l.length := Nat.mod_lt _ (by omega)
  have hn : dblN l (k + 1) = dblN l k + crP (ptA l k) (ptA l ((k + 1) % l.length)) := rfl
  have hb := dblN_in hp k (by omega)
  have hb2 := dblN_in hp (k + 1) (by omega)
  have pk := ptA_in hp hkl
  have pj := ptA_in hp hj
  have hc := crP_in pk pj
  have rk := prow hkl
  have rj := prow hj
  rw [hn] at hb2
  generalize dblN l k = D at hn hb hb2 ⊢
  have hmz : (((k : Int) + 1) % (l.length : Int)) = ((k + 1) % l.length : Nat) := by simp
  generalize (k + 1) % l.length = j at *
  generalize ptA l k = a at *
  generalize ptA l j = b at *
  obtain ⟨ax, ay⟩ := a
  obtain ⟨bx, by'⟩ := b
  simp only [crP, P2.in] at *
  refine ZR ?_
  refine WX1 ?_
  refine ZA (rd_indexq (i := k) rfl (KE (t := 107) rfl) rfl rfl rfl rk rfl) ?_
  refine WE ?_
  refine ZR ?_
  iterate 5 refine WX1 ?_
  refine ZA (rd_remY (z := (j : Int)) rfl rfl rfl (by omega) (by rw [Int.tmod_eq_emod_of_nonneg (by omega)]; simpa using hmz)) ?_
  refine WE ?_
  refine WA ?_
  refine WA ?_
  refine wk_of [] (fun _ => [(0, .c (.r v (pR l))), (3, .c (I (D + (ax * by' - ay * bx)))), (7, .c (.r v (pR l))), (8, .c (I (pR l).length)), (9, .c (I (k + 1 : Nat)))]) (fun _ => []) (by decide) (ZNL hE) ZCF (fun _ => .nil) (fun _ => ?_)
  exact ⟨m - 1, by omega, k + 1, by omega, by rw [hn], rfl⟩
 obtain rfl : k = l.length := by omega
 refine ZZ ?_
 refine WA ?_
 exact aret_1 [] _ rfl rfl rfl (by decide) (ZNK rfl) (fun _ => .nil) ⟨rfl, rfl⟩
end Go.Proofs.YtlblimbelfenaaaGreat
