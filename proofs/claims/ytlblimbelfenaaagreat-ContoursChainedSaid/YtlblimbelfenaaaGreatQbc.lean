/- Contours of the program, by value. -/
import Derived.Test.YtlblimbelfenaaaGreatQaw
import Derived.Test.YtlblimbelfenaaaGreatQar
import Derived.Test.YtlblimbelfenaaaGreatQbb
set_option linter.unusedSimpArgs false
set_option linter.unusedVariables false
/- The library's contract of sorting lies at this program for segments and contours. -/
namespace Go.Proofs.YtlblimbelfenaaaGreat
open Go Go.Shelf
set_option maxRecDepth 100000
def sortSegL_ren : Go.Shelf.Ren := ⟨fun | 6 => 83 | 15 => 129 | 14 => 137 | 28 => 174 | 29 => 175 | 20 => 178 | 21 => 179 | 22 => 180 | 23 => 181 | 24 => 182 | 25 => 183 | 26 => 184 | 27 => 185 | 46 => 228 | 47 => 216 | 48 => 217 | 49 => 229 | 50 => 230 | 57 => 251 | n => n, fun | 22 => 50 | 24 => 77 | 25 => 134 | 3 => 3 | 39 => 179 | 0 => 0 | 53 => 220 | 55 => 222 | 4 => 4 | 46 => 213 | 45 => 212 | 50 => 217 | 5 => 5 | 9 => 9 | 66 => 247 | 70 => 251 | 76 => 270 | 77 => 42 | n => n, fun | n => n⟩
theorem sortSegL : Go.Proofs.SlLaysF0.n6 Tryz.prog sortSegL_ren := {
  mixed := by kernel_rfl
  f6 := ⟨Tryz.f83.name, by decide, Tryz.func83.trans (congrArg some (by kernel_rfl))⟩
  f14 := ⟨Tryz.f137.name, by decide, Tryz.func137.trans (congrArg some (by kernel_rfl))⟩
  f15 := Tryz.func129.trans (congrArg some (by kernel_rfl))
  f20 := ⟨Tryz.f178.name, by decide, Tryz.func178.trans (congrArg some (by kernel_rfl))⟩
  f21 := ⟨Tryz.f179.name, by decide, Tryz.func179.trans (congrArg some (by kernel_rfl))⟩
  f22 := ⟨Tryz.f180.name, by decide, Tryz.func180.trans (congrArg some (by kernel_rfl))⟩
  f23 := ⟨Tryz.f181.name, by decide, Tryz.func181.trans (congrArg some (by kernel_rfl))⟩
  f24 := ⟨Tryz.f182.name, by decide, Tryz.func182.trans (congrArg some (by kernel_rfl))⟩
  f25 := ⟨Tryz.f183.name, by decide, Tryz.func183.trans (congrArg some (by kernel_rfl))⟩
  f26 := ⟨Tryz.f184.name, by decide, Tryz.func184.trans (congrArg some (by kernel_rfl))⟩
  f27 := ⟨Tryz.f185.name, by decide, Tryz.func185.trans (congrArg some (by kernel_rfl))⟩
  f28 := Tryz.func174.trans (congrArg some (by kernel_rfl))
  f29 := Tryz.func175.trans (congrArg some (by kernel_rfl))
  f46 := ⟨Tryz.f228.name, by decide, Tryz.func228.trans (congrArg some (by kernel_rfl))⟩
  f47 := Tryz.func216.trans (congrArg some (by kernel_rfl))
  f48 := Tryz.func217.trans (congrArg some (by kernel_rfl))
  f49 := ⟨Tryz.f229.name, by decide, Tryz.func229.trans (congrArg some (by kernel_rfl))⟩
  f50 := ⟨Tryz.f230.name, by decide, Tryz.func230.trans (congrArg some (by kernel_rfl))⟩
  f57 := ⟨Tryz.f251.name, by decide, Tryz.func251.trans (congrArg some (by kernel_rfl))⟩
  t0 := Tryz.underlying0
  a0 := Tryz.isAgg0
  z0 := Tryz.sizeOf0
  v0 := Tryz.zeroValue0
  t3 := Tryz.underlying3
  a3 := Tryz.isAgg3
  z3 := Tryz.sizeOf3
  v3 := Tryz.zeroValue3
  t4 := Tryz.underlying4
  a4 := Tryz.isAgg4
  z4 := Tryz.sizeOf4
  v4 := Tryz.zeroValue4
  t5 := Tryz.underlying5
  a5 := Tryz.isAgg5
  z5 := Tryz.sizeOf5
  v5 := Tryz.zeroValue5
  t9 := Tryz.underlying9
  a9 := Tryz.isAgg9
  z9 := Tryz.sizeOf9
  v9 := Tryz.zeroValue9
  t22 := Tryz.underlying50
  a22 := Tryz.isAgg50
  z22 := Tryz.sizeOf50
  v22 := Tryz.zeroValue50
  t25 := Tryz.underlying134
  a25 := Tryz.isAgg134
  z25 := Tryz.sizeOf134
  v25 := Tryz.zeroValue134
  t39 := Tryz.underlying179
  a39 := Tryz.isAgg179
  z39 := Tryz.sizeOf179
  v39 := Tryz.zeroValue179
  t45 := Tryz.underlying212
  a45 := Tryz.isAgg212
  z45 := Tryz.sizeOf212
  v45 := Tryz.zeroValue212
  t46 := Tryz.underlying213
  a46 := Tryz.isAgg213
  z46 := Tryz.sizeOf213
  v46 := Tryz.zeroValue213
  t50 := Tryz.underlying217
  a50 := Tryz.isAgg217
  z50 := Tryz.sizeOf217
  v50 := Tryz.zeroValue217
  t53 := Tryz.underlying220
  a53 := Tryz.isAgg220
  z53 := Tryz.sizeOf220
  v53 := Tryz.zeroValue220
  t55 := Tryz.underlying222
  a55 := Tryz.isAgg222
  z55 := Tryz.sizeOf222
  v55 := Tryz.zeroValue222
  t66 := Tryz.underlying247
  a66 := Tryz.isAgg247
  z66 := Tryz.sizeOf247
  v66 := Tryz.zeroValue247
  t70 := Tryz.underlying251
  a70 := Tryz.isAgg251
  z70 := Tryz.sizeOf251
  v70 := Tryz.zeroValue251
  t76 := Tryz.underlying270
  a76 := Tryz.isAgg270
  z76 := Tryz.sizeOf270
  v76 := Tryz.zeroValue270
  t77 := Tryz.underlying42
  a77 := Tryz.isAgg42
  z77 := Tryz.sizeOf42
  v77 := Tryz.zeroValue42 }
def sortConL_ren : Go.Shelf.Ren := ⟨fun | 6 => 131 | 15 => 129 | 14 => 177 | 28 => 174 | 29 => 175 | 20 => 220 | 21 => 221 | 22 => 222 | 23 => 223 | 24 => 224 | 25 => 225 | 26 => 226 | 27 => 227 | 46 => 248 | 47 => 216 | 48 => 217 | 49 => 249 | 50 => 250 | 57 => 257 | n => n, fun | 22 => 124 | 24 => 127 | 25 => 185 | 3 => 3 | 39 => 179 | 0 => 0 | 53 => 220 | 55 => 222 | 4 => 4 | 46 => 213 | 45 => 212 | 50 => 217 | 5 => 5 | 9 => 9 | 66 => 247 | 70 => 251 | 76 => 270 | 77 => 42 | n => n, fun | n => n⟩
theorem sortConL : Go.Proofs.SlLaysF0.n6 Tryz.prog sortConL_ren := {
  mixed := by kernel_rfl
  f6 := ⟨Tryz.f131.name, by decide, Tryz.func131.trans (congrArg some (by kernel_rfl))⟩
  f14 := ⟨Tryz.f177.name, by decide, Tryz.func177.trans (congrArg some (by kernel_rfl))⟩
  f15 := Tryz.func129.trans (congrArg some (by kernel_rfl))
  f20 := ⟨Tryz.f220.name, by decide, Tryz.func220.trans (congrArg some (by kernel_rfl))⟩
  f21 := ⟨Tryz.f221.name, by decide, Tryz.func221.trans (congrArg some (by kernel_rfl))⟩
  f22 := ⟨Tryz.f222.name, by decide, Tryz.func222.trans (congrArg some (by kernel_rfl))⟩
  f23 := ⟨Tryz.f223.name, by decide, Tryz.func223.trans (congrArg some (by kernel_rfl))⟩
  f24 := ⟨Tryz.f224.name, by decide, Tryz.func224.trans (congrArg some (by kernel_rfl))⟩
  f25 := ⟨Tryz.f225.name, by decide, Tryz.func225.trans (congrArg some (by kernel_rfl))⟩
  f26 := ⟨Tryz.f226.name, by decide, Tryz.func226.trans (congrArg some (by kernel_rfl))⟩
  f27 := ⟨Tryz.f227.name, by decide, Tryz.func227.trans (congrArg some (by kernel_rfl))⟩
  f28 := Tryz.func174.trans (congrArg some (by kernel_rfl))
  f29 := Tryz.func175.trans (congrArg some (by kernel_rfl))
  f46 := ⟨Tryz.f248.name, by decide, Tryz.func248.trans (congrArg some (by kernel_rfl))⟩
  f47 := Tryz.func216.trans (congrArg some (by kernel_rfl))
  f48 := Tryz.func217.trans (congrArg some (by kernel_rfl))
  f49 := ⟨Tryz.f249.name, by decide, Tryz.func249.trans (congrArg some (by kernel_rfl))⟩
  f50 := ⟨Tryz.f250.name, by decide, Tryz.func250.trans (congrArg some (by kernel_rfl))⟩
  f57 := ⟨Tryz.f257.name, by decide, Tryz.func257.trans (congrArg some (by kernel_rfl))⟩
  t0 := Tryz.underlying0
  a0 := Tryz.isAgg0
  z0 := Tryz.sizeOf0
  v0 := Tryz.zeroValue0
  t3 := Tryz.underlying3
  a3 := Tryz.isAgg3
  z3 := Tryz.sizeOf3
  v3 := Tryz.zeroValue3
  t4 := Tryz.underlying4
  a4 := Tryz.isAgg4
  z4 := Tryz.sizeOf4
  v4 := Tryz.zeroValue4
  t5 := Tryz.underlying5
  a5 := Tryz.isAgg5
  z5 := Tryz.sizeOf5
  v5 := Tryz.zeroValue5
  t9 := Tryz.underlying9
  a9 := Tryz.isAgg9
  z9 := Tryz.sizeOf9
  v9 := Tryz.zeroValue9
  t22 := Tryz.underlying124
  a22 := Tryz.isAgg124
  z22 := Tryz.sizeOf124
  v22 := Tryz.zeroValue124
  t25 := Tryz.underlying185
  a25 := Tryz.isAgg185
  z25 := Tryz.sizeOf185
  v25 := Tryz.zeroValue185
  t39 := Tryz.underlying179
  a39 := Tryz.isAgg179
  z39 := Tryz.sizeOf179
  v39 := Tryz.zeroValue179
  t45 := Tryz.underlying212
  a45 := Tryz.isAgg212
  z45 := Tryz.sizeOf212
  v45 := Tryz.zeroValue212
  t46 := Tryz.underlying213
  a46 := Tryz.isAgg213
  z46 := Tryz.sizeOf213
  v46 := Tryz.zeroValue213
  t50 := Tryz.underlying217
  a50 := Tryz.isAgg217
  z50 := Tryz.sizeOf217
  v50 := Tryz.zeroValue217
  t53 := Tryz.underlying220
  a53 := Tryz.isAgg220
  z53 := Tryz.sizeOf220
  v53 := Tryz.zeroValue220
  t55 := Tryz.underlying222
  a55 := Tryz.isAgg222
  z55 := Tryz.sizeOf222
  v55 := Tryz.zeroValue222
  t66 := Tryz.underlying247
  a66 := Tryz.isAgg247
  z66 := Tryz.sizeOf247
  v66 := Tryz.zeroValue247
  t70 := Tryz.underlying251
  a70 := Tryz.isAgg251
  z70 := Tryz.sizeOf251
  v70 := Tryz.zeroValue251
  t76 := Tryz.underlying270
  a76 := Tryz.isAgg270
  z76 := Tryz.sizeOf270
  v76 := Tryz.zeroValue270
  t77 := Tryz.underlying42
  a77 := Tryz.isAgg42
  z77 := Tryz.sizeOf42
  v77 := Tryz.zeroValue42 }
def sortRonL_ren : Go.Shelf.Ren := ⟨fun | 6 => 92 | 15 => 129 | 14 => 138 | 28 => 174 | 29 => 175 | 20 => 186 | 21 => 187 | 22 => 188 | 23 => 189 | 24 => 190 | 25 => 191 | 26 => 192 | 27 => 193 | 46 => 231 | 47 => 216 | 48 => 217 | 49 => 232 | 50 => 233 | 57 => 252 | n => n, fun | 22 => 135 | 24 => 137 | 25 => 144 | 3 => 3 | 39 => 179 | 0 => 0 | 53 => 220 | 55 => 222 | 4 => 4 | 46 => 213 | 45 => 212 | 50 => 217 | 5 => 5 | 9 => 9 | 66 => 247 | 70 => 251 | 76 => 270 | 77 => 42 | n => n, fun | n => n⟩
theorem sortRonL : Go.Proofs.SlLaysF0.n6 Tryz.prog sortRonL_ren := {
  mixed := by kernel_rfl
  f6 := ⟨Tryz.f92.name, by decide, Tryz.func92.trans (congrArg some (by kernel_rfl))⟩
  f14 := ⟨Tryz.f138.name, by decide, Tryz.func138.trans (congrArg some (by kernel_rfl))⟩
  f15 := Tryz.func129.trans (congrArg some (by kernel_rfl))
  f20 := ⟨Tryz.f186.name, by decide, Tryz.func186.trans (congrArg some (by kernel_rfl))⟩
  f21 := ⟨Tryz.f187.name, by decide, Tryz.func187.trans (congrArg some (by kernel_rfl))⟩
  f22 := ⟨Tryz.f188.name, by decide, Tryz.func188.trans (congrArg some (by kernel_rfl))⟩
  f23 := ⟨Tryz.f189.name, by decide, Tryz.func189.trans (congrArg some (by kernel_rfl))⟩
  f24 := ⟨Tryz.f190.name, by decide, Tryz.func190.trans (congrArg some (by kernel_rfl))⟩
  f25 := ⟨Tryz.f191.name, by decide, Tryz.func191.trans (congrArg some (by kernel_rfl))⟩
  f26 := ⟨Tryz.f192.name, by decide, Tryz.func192.trans (congrArg some (by kernel_rfl))⟩
  f27 := ⟨Tryz.f193.name, by decide, Tryz.func193.trans (congrArg some (by kernel_rfl))⟩
  f28 := Tryz.func174.trans (congrArg some (by kernel_rfl))
  f29 := Tryz.func175.trans (congrArg some (by kernel_rfl))
  f46 := ⟨Tryz.f231.name, by decide, Tryz.func231.trans (congrArg some (by kernel_rfl))⟩
  f47 := Tryz.func216.trans (congrArg some (by kernel_rfl))
  f48 := Tryz.func217.trans (congrArg some (by kernel_rfl))
  f49 := ⟨Tryz.f232.name, by decide, Tryz.func232.trans (congrArg some (by kernel_rfl))⟩
  f50 := ⟨Tryz.f233.name, by decide, Tryz.func233.trans (congrArg some (by kernel_rfl))⟩
  f57 := ⟨Tryz.f252.name, by decide, Tryz.func252.trans (congrArg some (by kernel_rfl))⟩
  t0 := Tryz.underlying0
  a0 := Tryz.isAgg0
  z0 := Tryz.sizeOf0
  v0 := Tryz.zeroValue0
  t3 := Tryz.underlying3
  a3 := Tryz.isAgg3
  z3 := Tryz.sizeOf3
  v3 := Tryz.zeroValue3
  t4 := Tryz.underlying4
  a4 := Tryz.isAgg4
  z4 := Tryz.sizeOf4
  v4 := Tryz.zeroValue4
  t5 := Tryz.underlying5
  a5 := Tryz.isAgg5
  z5 := Tryz.sizeOf5
  v5 := Tryz.zeroValue5
  t9 := Tryz.underlying9
  a9 := Tryz.isAgg9
  z9 := Tryz.sizeOf9
  v9 := Tryz.zeroValue9
  t22 := Tryz.underlying135
  a22 := Tryz.isAgg135
  z22 := Tryz.sizeOf135
  v22 := Tryz.zeroValue135
  t25 := Tryz.underlying144
  a25 := Tryz.isAgg144
  z25 := Tryz.sizeOf144
  v25 := Tryz.zeroValue144
  t39 := Tryz.underlying179
  a39 := Tryz.isAgg179
  z39 := Tryz.sizeOf179
  v39 := Tryz.zeroValue179
  t45 := Tryz.underlying212
  a45 := Tryz.isAgg212
  z45 := Tryz.sizeOf212
  v45 := Tryz.zeroValue212
  t46 := Tryz.underlying213
  a46 := Tryz.isAgg213
  z46 := Tryz.sizeOf213
  v46 := Tryz.zeroValue213
  t50 := Tryz.underlying217
  a50 := Tryz.isAgg217
  z50 := Tryz.sizeOf217
  v50 := Tryz.zeroValue217
  t53 := Tryz.underlying220
  a53 := Tryz.isAgg220
  z53 := Tryz.sizeOf220
  v53 := Tryz.zeroValue220
  t55 := Tryz.underlying222
  a55 := Tryz.isAgg222
  z55 := Tryz.sizeOf222
  v55 := Tryz.zeroValue222
  t66 := Tryz.underlying247
  a66 := Tryz.isAgg247
  z66 := Tryz.sizeOf247
  v66 := Tryz.zeroValue247
  t70 := Tryz.underlying251
  a70 := Tryz.isAgg251
  z70 := Tryz.sizeOf251
  v70 := Tryz.zeroValue251
  t76 := Tryz.underlying270
  a76 := Tryz.isAgg270
  z76 := Tryz.sizeOf270
  v76 := Tryz.zeroValue270
  t77 := Tryz.underlying42
  a77 := Tryz.isAgg42
  z77 := Tryz.sizeOf42
  v77 := Tryz.zeroValue42 }
end Go.Proofs.YtlblimbelfenaaaGreat

/- Plain law: passes over sides, one by one. -/
namespace Go.Proofs.YtlblimbelfenaaaGreat
theorem PassP.append {N : Nxt} {F : Sid2 → Bool} {is : Bool} {a b sn sn1 sn2 : List Sid2} {o o2 : List (List Sid2 × Bool)} (h : PassP N F is a sn o sn1) : PassP N F is b sn1 o2 sn2 → PassP N F is (a ++ b) sn (o ++ o2) sn2 := by
  induction h with
  | nil => intro h2; exact h2
  | skip h _ ih => intro h2; exact .skip h (ih h2)
  | take h1 h2 h3 _ ih => intro h4; exact .take h1 h2 h3 (ih h4)
theorem PassP.skip1 {N : Nxt} {F : Sid2 → Bool} {is : Bool} {l sn0 sn : List Sid2} {o : List (List Sid2 × Bool)} {k : Nat} {f : Sid2} (h : PassP N F is (l.take k) sn0 o sn) (hf : l[k]? = some f) (hs : f ∈ sn ∨ (is = false ∧ F f = true)) : PassP N F is (l.take (k + 1)) sn0 o sn := by
  rw [List.take_add_one, hf]
  have := h.append (.skip hs .nil)
  rwa [List.append_nil] at this
theorem PassP.take1 {N : Nxt} {F : Sid2 → Bool} {is : Bool} {l sn0 sn r : List Sid2} {o : List (List Sid2 × Bool)} {k : Nat} {f : Sid2} {c : Bool} (h : PassP N F is (l.take k) sn0 o sn) (hf : l[k]? = some f) (h1 : f ∉ sn) (h2 : ¬ (is = false ∧ F f = true)) (hc : Ch N f f r c) : PassP N F is (l.take (k + 1)) sn0 (o ++ [(f :: r, is)]) (sn ++ f :: r) := by
  rw [List.take_add_one, hf]
  exact h.append (.take h1 h2 hc .nil)
theorem nxt_snoc {A : List Seg5} {g : Seg5} (h : ((A ++ [g]).map (·.fr)).Nodup) (s : Sid2) : nxt (A ++ [g]) s = if s = g.fr then some g.to else nxt A s := by
  induction A with
  | nil =>
    simp only [List.nil_append, nxt]
    by_cases e : s = g.fr
    · rw [if_pos e, if_pos e.symm]
    · rw [if_neg e, if_neg (fun h => e h.symm)]
  | cons k A ih =>
    simp only [List.cons_append, List.map_cons, List.nodup_cons] at h
    simp only [List.cons_append, nxt]
    rw [ih h.2]
    split
    · rename_i e
      rw [if_neg]
      intro e2
      exact h.1 (by rw [e, e2]; simp)
    · rfl
theorem folB_snoc {A : List Seg5} {g : Seg5} (s : Sid2) : folB (A ++ [g]) s = if s = g.to then true else folB A s := by
  rw [Bool.eq_iff_iff]
  split
  · rename_i e; simp [folB, e]
  · rename_i e
    simp only [folB, List.map_append, List.map_cons, List.map_nil, List.contains_eq_mem, List.mem_append, List.mem_singleton, decide_eq_true_eq, e, or_false]
theorem take_snoc {α : Type} {l : List α} {k : Nat} {x : α} (h : l[k]? = some x) : l.take (k + 1) = l.take k ++ [x] := by rw [List.take_add_one, h]; rfl
theorem nodup_take {S : List Seg5} (h : (S.map (·.fr)).Nodup) (k : Nat) : ((S.take k).map (·.fr)).Nodup := by
  rw [List.map_take]; exact h.sublist (List.take_sublist _ _)
theorem sgL_ok {V : List Vec3} {Fs : List Fac3} {z : Int} (hM : MOk V Fs) : SegOk (sgL V Fs z) := ⟨(sg_nodup hM.dup).1, (sg_nodup hM.dup).2⟩
/-- Both passes, and the order. -/
theorem IsConts.of {S : List Seg5} {cs O : List (List Sid2 × Bool)} {s1 s2 : List Sid2} {o1 o2 : List (List Sid2 × Bool)} (h1 : PassP (nxt S) (folB S) false (srtS (S.map (·.fr))) [] o1 s1) (h2 : PassP (nxt S) (folB S) true (srtS (S.map (·.fr))) s1 o2 s2) (hO : O = o1 ++ o2) (hp : cs.Perm O) (hs : cs.Pairwise leC) : IsConts S cs :=
  ⟨_, o1, s1, o2, s2, srtS_perm _, srtS_sorted _, h1, h2, hO ▸ hp, hs⟩
/-- The first side of a row. -/
def hdS (k : List Sid2 × Bool) : Sid2 := k.1.headD ⟨0, 0⟩
theorem leC_of {a b : List Sid2 × Bool} (h : leS (hdS a) (hdS b)) : leC a b := fun x y hx hy => by
  obtain ⟨a1, a2⟩ := a
  obtain ⟨b1, b2⟩ := b
  cases a1 with
  | nil => cases hx
  | cons x' _ => cases b1 with
    | nil => cases hy
    | cons y' _ =>
      simp only [List.head?_cons, Option.some.injEq] at hx hy
      subst hx; subst hy
      exact h
theorem PassP.ne {N : Nxt} {F : Sid2 → Bool} {is : Bool} {l sn sn' : List Sid2} {o : List (List Sid2 × Bool)} (h : PassP N F is l sn o sn') : ∀ k ∈ o, k.1 ≠ [] := fun k hk => by
  obtain ⟨f, r, rfl, _⟩ := h.heads.2.1 k hk
  simp
end Go.Proofs.YtlblimbelfenaaaGreat

/- Contours of the program, by value. -/
-- NEWM
namespace Go.Proofs.YtlblimbelfenaaaGreat
open Go Go.RowKit
set_option maxRecDepth 100000
abbrev Con := List Sid2 × Bool
abbrev conRow (p : Value × Con) : List CV := [.r p.1 (sR p.2.1), B p.2.2]
abbrev cR (l : List (Value × Con)) : List (List CV) := l.map conRow
def conOf : List CV → Value × Con
  | [.r v rows, .s (.bool b)] => (v, (rows.map sidOf, b))
  | _ => (.pointer none, ([], false))
theorem sR_back (l : List Sid2) : (sR l).map sidOf = l := by
  rw [sR, List.map_map, show (sidOf ∘ Sid2.row) = id from funext fun s => rfl, List.map_id]
theorem conOf_row (p : Value × Con) : conOf (conRow p) = p := by
  obtain ⟨v, l, b⟩ := p
  simp only [conRow, conOf]
  rw [sR_back]
/-- The order of contours: by their first sides. -/
theorem conC_v (p q : Value × Con) (hp : p.2.1 ≠ []) (hq : q.2.1 ≠ []) : ACalls Tryz.prog 132 [.a ((conRow p).map .c), .a ((conRow q).map .c)] [] fun u H => u = .c (I (sidC (hdS p.2) (hdS q.2))) ∧ H = [] := by
  obtain ⟨v, l, b⟩ := p
  obtain ⟨v', l', b'⟩ := q
  cases l with
  | nil => exact absurd rfl hp
  | cons s l =>
    cases l' with
    | nil => exact absurd rfl hq
    | cons s' l' =>
      obtain ⟨sf, st⟩ := s
      obtain ⟨sf', st'⟩ := s'
      have hr1 : (sR ((⟨sf, st⟩ : Sid2) :: l))[0]? = some [I sf, I st] := rfl
      have hr2 : (sR ((⟨sf', st'⟩ : Sid2) :: l'))[0]? = some [I sf', I st'] := rfl
      refine acalls_of (N := 14) Tryz.func132 rfl rfl (by simp) fun E hE => ?_
      refine WA ?_
      refine ZZ ?_
      refine aw_regionT [(0, none), (1, none), (2, none), (3, none), (4, none), (5, none), (6, none), (7, none), (8, some []), (9, none)] hMixed (by kernel_rfl) ?_
      refine WP ?_
      refine at_ef rfl rfl (ef_call0 false (fun _ => cmpS_v ⟨sf, st⟩ ⟨sf', st'⟩) rfl .fn rfl (by decide) (by kernel_rfl) rfl (fun _ => C0 rfl) (by simp)) ?_
      rintro _ _ ⟨_, _, _, ⟨rfl, rfl⟩, hF, hH⟩
      (try simp only [nsl, Nat.reduceAdd, Nat.reduceLT, Nat.reduceSub] at hF); (try simp only [nsl, Nat.reduceAdd, Nat.reduceLT, Nat.reduceSub] at hH); subst hF; subst hH
      refine ⟨ag_none, ?_⟩
      refine WQ ?_
      all_goals exact aret_1 [] _ rfl rfl rfl (by decide) (ZNK rfl) (fun _ => .nil) ⟨rfl, rfl⟩
/-- slices.SortFunc of contours. -/
theorem sortCon_v (l : List (Value × Con)) (hne : ∀ p ∈ l, p.2.1 ≠ []) (c : Nat) (hl : l.length ≤ 1000000) :
    ACallsX true Tryz.prog 131 [.o 0 0 l.length c, .f (.func 132) []] [.arr 127 2 c (cR l)] fun u H => ∃ l' : List (Value × Con), u = .t [] ∧ H = [.arr 127 2 c (cR l')] ∧ l'.Perm l ∧ (l'.map Prod.snd).Pairwise leC := by
  have h := acalls_sort sortConL (k := 2) (fun w => Tryz.isAgg127 w) (fun w => Tryz.sizeOf127 w) (fun x => ∃ p : Value × Con, p.2.1 ≠ [] ∧ x = conRow p) (fun x y => sidC (hdS (conOf x).2) (hdS (conOf y).2)) (g := 132) (by kernel_rfl)
    (by rintro _ ⟨s, _, rfl⟩; rw [sidC_lt]; omega)
    (by rintro _ _ _ ⟨a, _, rfl⟩ ⟨b, _, rfl⟩ ⟨c, _, rfl⟩; simp only [sidC_lt]; omega)
    (by rintro _ _ _ ⟨a, _, rfl⟩ ⟨b, _, rfl⟩ ⟨c, _, rfl⟩; simp only [sidC_lt]; omega)
    (by rintro _ _ ⟨a, ha, rfl⟩ ⟨b, hb, rfl⟩; rw [conOf_row, conOf_row]; exact conC_v a b ha hb)
    (cR l) (by intro r hr; obtain ⟨p, hp, rfl⟩ := List.mem_map.1 hr; exact ⟨p, hne p hp, rfl⟩) (by simp; omega) (e := 127) (cap := c) (n := l.length) (c := c) (pn := true) (by simp)
  refine ACallsX.mono h fun u H => ?_
  rintro ⟨rows', rfl, rfl, hp, hs⟩
  have h2 := hp.map conOf
  rw [cR, List.map_map, show (conOf ∘ conRow) = id from funext conOf_row, List.map_id] at h2
  refine ⟨rows'.map conOf, rfl, ?_, h2, ?_⟩
  · congr 2
    rw [cR, List.map_map]
    refine (List.map_id _).symm.trans (List.map_congr_left fun r hr => ?_)
    obtain ⟨p, _, rfl⟩ := List.mem_map.1 (hp.subset hr)
    exact congrArg conRow (conOf_row p).symm
  · rw [List.map_map, List.pairwise_map]
    refine hs.imp fun {x y} h => leC_of ?_
    rw [sidC_lt] at h
    simp only [Function.comp]
    unfold leS
    omega
end Go.Proofs.YtlblimbelfenaaaGreat
