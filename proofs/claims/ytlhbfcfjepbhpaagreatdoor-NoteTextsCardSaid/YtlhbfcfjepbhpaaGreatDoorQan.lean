/- Walks of regions in one step: tables of this seat's types, readers in one function, and tactics that find the rule for each operation. -/
import Derived.Test.YtlhbfcfjepbhpaaGreatDoorProg
import Derived.Test.YtlhbfcfjepbhpaaGreatDoorQal
import Derived.Test.YtlhbfcfjepbhpaaGreatDoorQam
set_option linter.unusedSimpArgs false
set_option linter.unusedVariables false
namespace Go.Proofs.YtlhbfcfjepbhpaaGreatDoor
open Go Go.RowKit
set_option maxRecDepth 100000
theorem zS : Tryz.prog.follows .mixedOrders = true := by kernel_rfl
inductive BT (α : Type) where
 | nil
 | node (l : BT α) (k : Nat) (v : α) (r : BT α)
def BT.get {α : Type} : BT α → Nat → Option α
 | .nil, _ => none
 | .node l k v r, t => match Nat.beq t k with
  | true => some v
  | false => match Nat.blt t k with
   | true => l.get t
   | false => r.get t
def BT.toL {α : Type} : BT α → List (Nat × α)
 | .nil => []
 | .node l k v r => l.toL ++ (k, v) :: r.toL
theorem BT.mem {α : Type} {t : Nat} {v : α} : ∀ {T : BT α}, T.get t = some v → (t, v) ∈ T.toL
 | .nil, h => by cases h
 | .node l k u r, h => by
  rw [BT.get] at h
  rw [BT.toL, List.mem_append, List.mem_cons]
  split at h
  ·rename_i hk
   obtain rfl : t = k := Nat.eq_of_beq_eq_true hk
   injection h with h
   exact .inr (.inl (by rw [h]))
  ·split at h
   ·exact .inl (BT.mem h)
   ·exact .inr (.inr (BT.mem h))
theorem BT.of {α : Type} {f : Nat → α} {T : BT α} (h : T.toL.map (fun p => f p.1) = T.toL.map Prod.snd) {t : Nat} {r : α} (hl : T.get t = some r) : f t = r := by
 have := List.map_inj_left.1 h _ (BT.mem hl)
 exact this
def tyI (P : Program) (t : TypeId) : Value × Nat × Nat := match P.info? t with
 | some i => (i.zero.getD undef, i.size, i.bytes)
 | none => (undef, 0, 0)
def tyK (P : Program) (t : TypeId) : Option Nat := (ldk P t).getD none
def fieldsOf (P : Program) (t : TypeId) : List Nat := match P.underlying t with
 | some (.struct fs) => (List.range fs.size).map fun f => (fieldOff P t f).getD 999
 | _ => []
def elemTyB (P : Program) (t : TypeId) (q : TypeId × Nat) : Bool := match P.underlying t with
 | some (.slice e) => e == q.1 && match P.info? q.1 with
  | some i => i.size == q.2 && Nat.ble i.bytes 256 && Nat.blt 0 q.2 && match i.zero with
   | some z => z.cells.size == q.2
   | none => false
  | none => false
 | _ => false
theorem elemTyB_of {P : Program} {t e : TypeId} {sz : Nat} (h : elemTyB P t (e, sz) = true) : ElemTy P t e sz := by
 unfold elemTyB at h
 split at h
 ·rename_i e' hu
  rw [Bool.and_eq_true] at h
  obtain ⟨h1, h2⟩ := h
  obtain rfl : e' = e := by simpa using h1
  split at h2
  ·rename_i i hi
   simp only [Bool.and_eq_true, beq_iff_eq, Nat.ble_eq, Nat.blt_eq] at h2
   obtain ⟨⟨⟨g1, g2⟩, g3⟩, g4⟩ := h2
   split at g4
   ·rename_i z hz
    exact ⟨hu, ⟨i, z, hi, hz, g1, g2, by simpa using g4⟩, g3⟩
   ·cases g4
  ·cases h2
 ·cases h
def bK : BT (Option Nat) := (.node (.node (.node (.node (.node (.node (.node .nil 2 none .nil) 3 none .nil) 4 none (.node (.node .nil 5 none .nil) 9 none .nil)) 21 none (.node (.node (.node .nil 22 none .nil) 23 none .nil) 25 (some 2) (.node (.node .nil 26 none .nil) 30 none .nil))) 39 (some 10) (.node (.node (.node (.node .nil 46 none .nil) 51 (some 2) .nil) 56 (some 2) (.node (.node .nil 58 (some 2) .nil) 61 none .nil)) 79 none (.node (.node (.node .nil 85 none .nil) 86 none .nil) 88 (some 2) (.node (.node .nil 90 none .nil) 108 none .nil)))) 112 (some 2) (.node (.node (.node (.node (.node .nil 113 none .nil) 116 none .nil) 117 none (.node (.node .nil 118 none .nil) 120 (some 7) .nil)) 123 (some 6) (.node (.node (.node .nil 125 none .nil) 128 none .nil) 129 none (.node (.node .nil 131 (some 2) .nil) 133 none .nil))) 137 (some 4) (.node (.node (.node (.node .nil 141 (some 2) .nil) 142 none .nil) 144 (some 8) (.node (.node .nil 148 (some 6) .nil) 149 none .nil)) 158 none (.node (.node (.node .nil 160 (some 2) .nil) 165 none .nil) 167 (some 6) (.node (.node .nil 168 none .nil) 171 (some 6) .nil))))) 181 none (.node (.node (.node (.node (.node (.node .nil 183 (some 5) .nil) 185 none .nil) 191 none (.node (.node .nil 193 (some 2) .nil) 200 none .nil)) 204 none (.node (.node (.node .nil 208 (some 3) .nil) 210 (some 3) .nil) 211 none (.node (.node .nil 213 (some 2) .nil) 214 none .nil))) 218 (some 3) (.node (.node (.node (.node .nil 219 none .nil) 222 (some 2) .nil) 251 none (.node (.node .nil 253 none .nil) 265 (some 2) .nil)) 292 (some 256) (.node (.node (.node .nil 296 none .nil) 305 (some 24) .nil) 310 none (.node (.node .nil 320 (some 2) .nil) 321 (some 6) .nil)))) 324 none (.node (.node (.node (.node (.node .nil 326 none .nil) 328 (some 2) .nil) 329 none (.node (.node .nil 333 none .nil) 337 (some 5) .nil)) 342 none (.node (.node (.node .nil 344 (some 6) .nil) 348 (some 7) .nil) 349 none (.node (.node .nil 368 (some 20) .nil) 369 (some 65) .nil))) 380 none (.node (.node (.node (.node .nil 383 (some 5) .nil) 390 (some 6) .nil) 407 (some 3) (.node (.node .nil 424 (some 256) .nil) 426 (some 2) .nil)) 427 (some 32) (.node (.node (.node .nil 432 (some 1) .nil) 438 (some 32) .nil) 439 (some 64) (.node .nil 441 (some 3) .nil))))))
theorem kK : bK.toL.map (fun p => tyK Tryz.prog p.1) = bK.toL.map Prod.snd := by kernel_rfl
theorem kK2 : (bK.toL.all fun p => (ldk Tryz.prog p.1).isSome) = true := by kernel_rfl
def bI : BT (Value × Nat × Nat) := (.node (.node (.node (.node (.node (.node (.node .nil 2 ((.int .i64 0), 1, 8) .nil) 3 ((.int .i64 0), 1, 8) .nil) 4 ((.bool false), 1, 1) (.node (.node .nil 5 ((.int .u8 0), 1, 1) .nil) 9 ((.string ByteArray.empty), 1, 16) .nil)) 21 ((.int .i32 0), 1, 4) (.node (.node (.node .nil 22 ((.slice none 0 0), 1, 24) .nil) 23 ((.pointer none), 1, 8) .nil) 25 ((.agg #[.slice none 0 0, .int .i64 0]), 2, 32) (.node (.node .nil 26 ((.slice none 0 0), 1, 24) .nil) 30 ((.int .i64 0), 1, 8) .nil))) 39 ((.agg #[.string ByteArray.empty, .int .i64 0, .int .i64 0, .int .i64 0, .string ByteArray.empty, .string ByteArray.empty, .string ByteArray.empty, .int .i64 0, .string ByteArray.empty, .int .i64 0]), 10, 120) (.node (.node (.node (.node .nil 46 ((.slice none 0 0), 1, 24) .nil) 51 ((.agg #[.string ByteArray.empty, .string ByteArray.empty]), 2, 32) .nil) 56 ((.agg #[.int .i64 0, .int .i64 0]), 2, 16) (.node (.node .nil 58 ((.agg #[.int .i64 0, .int .i64 0]), 2, 16) .nil) 61 ((.slice none 0 0), 1, 24) .nil)) 79 ((.map none), 1, 8) (.node (.node (.node .nil 85 ((.pointer none), 1, 8) .nil) 86 ((.slice none 0 0), 1, 24) .nil) 88 ((.agg #[.pointer none, .slice none 0 0]), 2, 32) (.node (.node .nil 90 ((.nilIface), 1, 16) .nil) 108 ((.slice none 0 0), 1, 24) .nil)))) 112 ((.agg #[.string ByteArray.empty, .int .i64 0]), 2, 24) (.node (.node (.node (.node (.node .nil 113 ((.pointer none), 1, 8) .nil) 116 ((.map none), 1, 8) .nil) 117 ((.map none), 1, 8) (.node (.node .nil 118 ((.slice none 0 0), 1, 24) .nil) 120 ((.agg #[.map none, .map none, .map none, .map none, .map none, .slice none 0 0, .slice none 0 0]), 7, 88) .nil)) 123 ((.agg #[.string ByteArray.empty, .int .i64 0, .int .i64 0, .int .i64 0, .int .i64 0, .int .i64 0]), 6, 56) (.node (.node (.node .nil 125 ((.slice none 0 0), 1, 24) .nil) 128 ((.slice none 0 0), 1, 24) .nil) 129 ((.slice none 0 0), 1, 24) (.node (.node .nil 131 ((.agg #[.slice none 0 0, .slice none 0 0]), 2, 48) .nil) 133 ((.slice none 0 0), 1, 24) .nil))) 137 ((.agg #[.int .i64 0, .int .i64 0, .int .i64 0, .slice none 0 0]), 4, 48) (.node (.node (.node (.node .nil 141 ((.agg #[.int .i64 0, .int .i64 0]), 2, 16) .nil) 142 ((.slice none 0 0), 1, 24) .nil) 144 ((.agg #[.int .i64 0, .int .i64 0, .int .i64 0, .int .i64 0, .int .i64 0, .int .i64 0, .int .i64 0, .bool false]), 8, 64) (.node (.node .nil 148 ((.agg #[.int .i64 0, .int .i64 0, .int .i64 0, .int .i64 0, .int .i64 0, .int .i64 0]), 6, 48) .nil) 149 ((.slice none 0 0), 1, 24) .nil)) 158 ((.pointer none), 1, 8) (.node (.node (.node .nil 160 ((.agg #[.slice none 0 0, .int .i64 0]), 2, 32) .nil) 165 ((.map none), 1, 8) .nil) 167 ((.agg #[.map none, .map none, .map none, .map none, .slice none 0 0, .slice none 0 0]), 6, 80) (.node (.node .nil 168 ((.pointer none), 1, 8) .nil) 171 ((.agg #[.string ByteArray.empty, .string ByteArray.empty, .slice none 0 0, .int .i64 0, .int .i64 0, .int .i64 0]), 6, 80) .nil))))) 181 ((.map none), 1, 8) (.node (.node (.node (.node (.node (.node .nil 183 ((.agg #[.bool false, .bool false, .bool false, .bool false, .int .i64 0]), 5, 16) .nil) 185 ((.pointer none), 1, 8) .nil) 191 ((.pointer none), 1, 8) (.node (.node .nil 193 ((.agg #[.slice none 0 0, .bool false]), 2, 32) .nil) 200 ((.int .u64 0), 1, 8) .nil)) 204 ((.nilFunc), 1, 8) (.node (.node (.node .nil 208 ((.agg #[.int .i64 0, .int .i64 0, .int .i64 0]), 3, 24) .nil) 210 ((.agg #[.int .i64 0, .int .i64 0, .int .i64 0]), 3, 24) .nil) 211 ((.pointer none), 1, 8) (.node (.node .nil 213 ((.agg #[.pointer none, .int .i64 0]), 2, 16) .nil) 214 ((.slice none 0 0), 1, 24) .nil))) 218 ((.agg #[.int .i64 0, .int .i64 0, .int .i64 0]), 3, 24) (.node (.node (.node (.node .nil 219 ((.slice none 0 0), 1, 24) .nil) 222 ((.agg #[.slice none 0 0, .bool false]), 2, 32) .nil) 251 ((.int .u32 0), 1, 4) (.node (.node .nil 253 ((.int .u64 0), 1, 8) .nil) 265 ((.agg #[.int .i64 0, .int .i64 0]), 2, 16) .nil)) 292 ((.agg #[.bool false, .bool false, .bool false, .bool false, .bool false, .bool false, .bool false, .bool false, .bool false, .bool false, .bool false, .bool false, .bool false, .bool false, .bool false, .bool false, .bool false, .bool false, .bool false, .bool false, .bool false, .bool false, .bool false, .bool false, .bool false, .bool false, .bool false, .bool false, .bool false, .bool false, .bool false, .bool false, .bool false, .bool false, .bool false, .bool false, .bool false, .bool false, .bool false, .bool false, .bool false, .bool false, .bool false, .bool false, .bool false, .bool false, .bool false, .bool false, .bool false, .bool false, .bool false, .bool false, .bool false, .bool false, .bool false, .bool false, .bool false, .bool false, .bool false, .bool false, .bool false, .bool false, .bool false, .bool false, .bool false, .bool false, .bool false, .bool false, .bool false, .bool false, .bool false, .bool false, .bool false, .bool false, .bool false, .bool false, .bool false, .bool false, .bool false, .bool false, .bool false, .bool false, .bool false, .bool false, .bool false, .bool false, .bool false, .bool false, .bool false, .bool false, .bool false, .bool false, .bool false, .bool false, .bool false, .bool false, .bool false, .bool false, .bool false, .bool false, .bool false, .bool false, .bool false, .bool false, .bool false, .bool false, .bool false, .bool false, .bool false, .bool false, .bool false, .bool false, .bool false, .bool false, .bool false, .bool false, .bool false, .bool false, .bool false, .bool false, .bool false, .bool false, .bool false, .bool false, .bool false, .bool false, .bool false, .bool false, .bool false, .bool false, .bool false, .bool false, .bool false, .bool false, .bool false, .bool false, .bool false, .bool false, .bool false, .bool false, .bool false, .bool false, .bool false, .bool false, .bool false, .bool false, .bool false, .bool false, .bool false, .bool false, .bool false, .bool false, .bool false, .bool false, .bool false, .bool false, .bool false, .bool false, .bool false, .bool false, .bool false, .bool false, .bool false, .bool false, .bool false, .bool false, .bool false, .bool false, .bool false, .bool false, .bool false, .bool false, .bool false, .bool false, .bool false, .bool false, .bool false, .bool false, .bool false, .bool false, .bool false, .bool false, .bool false, .bool false, .bool false, .bool false, .bool false, .bool false, .bool false, .bool false, .bool false, .bool false, .bool false, .bool false, .bool false, .bool false, .bool false, .bool false, .bool false, .bool false, .bool false, .bool false, .bool false, .bool false, .bool false, .bool false, .bool false, .bool false, .bool false, .bool false, .bool false, .bool false, .bool false, .bool false, .bool false, .bool false, .bool false, .bool false, .bool false, .bool false, .bool false, .bool false, .bool false, .bool false, .bool false, .bool false, .bool false, .bool false, .bool false, .bool false, .bool false, .bool false, .bool false, .bool false, .bool false, .bool false, .bool false, .bool false, .bool false, .bool false, .bool false, .bool false, .bool false, .bool false, .bool false, .bool false, .bool false, .bool false, .bool false, .bool false, .bool false, .bool false, .bool false, .bool false, .bool false, .bool false]), 256, 256) (.node (.node (.node .nil 296 ((.pointer none), 1, 8) .nil) 305 ((.agg #[.int .u8 0, .int .u8 0, .int .u8 0, .int .u8 0, .int .u8 0, .int .u8 0, .int .u8 0, .int .u8 0, .int .u8 0, .int .u8 0, .int .u8 0, .int .u8 0, .int .u8 0, .int .u8 0, .int .u8 0, .int .u8 0, .int .u8 0, .int .u8 0, .int .u8 0, .int .u8 0, .int .u8 0, .int .u8 0, .int .u8 0, .int .u8 0]), 24, 24) .nil) 310 ((.int .u64 0), 1, 8) (.node (.node .nil 320 ((.agg #[.int .i64 0, .int .i64 0]), 2, 16) .nil) 321 ((.agg #[.int .i64 0, .int .i64 0, .int .i64 0, .int .i64 0, .int .i64 0, .int .i64 0]), 6, 48) .nil)))) 324 ((.slice none 0 0), 1, 24) (.node (.node (.node (.node (.node .nil 326 ((.slice none 0 0), 1, 24) .nil) 328 ((.agg #[.slice none 0 0, .bool false]), 2, 32) .nil) 329 ((.slice none 0 0), 1, 24) (.node (.node .nil 333 ((.slice none 0 0), 1, 24) .nil) 337 ((.agg #[.int .i64 0, .int .i64 0, .int .i64 0, .int .i64 0, .int .i64 0]), 5, 40) .nil)) 342 ((.slice none 0 0), 1, 24) (.node (.node (.node .nil 344 ((.agg #[.int .i64 0, .int .i64 0, .int .i64 0, .int .i64 0, .int .i64 0, .slice none 0 0]), 6, 64) .nil) 348 ((.agg #[.string ByteArray.empty, .bool false, .bool false, .bool false, .bool false, .int .i64 0, .int .i64 0]), 7, 40) .nil) 349 ((.slice none 0 0), 1, 24) (.node (.node .nil 368 ((.agg #[.int .u64 0, .int .u64 0, .int .u64 0, .int .u64 0, .int .u64 0, .int .u64 0, .int .u64 0, .int .u64 0, .int .u64 0, .int .u64 0, .int .u64 0, .int .u64 0, .int .u64 0, .int .u64 0, .int .u64 0, .int .u64 0, .int .u64 0, .int .u64 0, .int .u64 0, .int .u64 0]), 20, 160) .nil) 369 ((.agg #[.int .u8 0, .int .u8 0, .int .u8 0, .int .u8 0, .int .u8 0, .int .u8 0, .int .u8 0, .int .u8 0, .int .u8 0, .int .u8 0, .int .u8 0, .int .u8 0, .int .u8 0, .int .u8 0, .int .u8 0, .int .u8 0, .int .u8 0, .int .u8 0, .int .u8 0, .int .u8 0, .int .u8 0, .int .u8 0, .int .u8 0, .int .u8 0, .int .u8 0, .int .u8 0, .int .u8 0, .int .u8 0, .int .u8 0, .int .u8 0, .int .u8 0, .int .u8 0, .int .u8 0, .int .u8 0, .int .u8 0, .int .u8 0, .int .u8 0, .int .u8 0, .int .u8 0, .int .u8 0, .int .u8 0, .int .u8 0, .int .u8 0, .int .u8 0, .int .u8 0, .int .u8 0, .int .u8 0, .int .u8 0, .int .u8 0, .int .u8 0, .int .u8 0, .int .u8 0, .int .u8 0, .int .u8 0, .int .u8 0, .int .u8 0, .int .u8 0, .int .u8 0, .int .u8 0, .int .u8 0, .int .u8 0, .int .u8 0, .int .u8 0, .int .u8 0, .int .u8 0]), 65, 65) .nil))) 380 ((.slice none 0 0), 1, 24) (.node (.node (.node (.node .nil 383 ((.agg #[.int .i64 0, .int .i64 0, .int .i64 0, .int .i64 0, .int .i64 0]), 5, 40) .nil) 390 ((.agg #[.int .i64 0, .int .i64 0, .int .i64 0, .int .i64 0, .int .i64 0, .int .i64 0]), 6, 48) .nil) 407 ((.agg #[.string ByteArray.empty, .string ByteArray.empty, .nilIface]), 3, 48) (.node (.node .nil 424 ((.agg #[.int .u8 0, .int .u8 0, .int .u8 0, .int .u8 0, .int .u8 0, .int .u8 0, .int .u8 0, .int .u8 0, .int .u8 0, .int .u8 0, .int .u8 0, .int .u8 0, .int .u8 0, .int .u8 0, .int .u8 0, .int .u8 0, .int .u8 0, .int .u8 0, .int .u8 0, .int .u8 0, .int .u8 0, .int .u8 0, .int .u8 0, .int .u8 0, .int .u8 0, .int .u8 0, .int .u8 0, .int .u8 0, .int .u8 0, .int .u8 0, .int .u8 0, .int .u8 0, .int .u8 0, .int .u8 0, .int .u8 0, .int .u8 0, .int .u8 0, .int .u8 0, .int .u8 0, .int .u8 0, .int .u8 0, .int .u8 0, .int .u8 0, .int .u8 0, .int .u8 0, .int .u8 0, .int .u8 0, .int .u8 0, .int .u8 0, .int .u8 0, .int .u8 0, .int .u8 0, .int .u8 0, .int .u8 0, .int .u8 0, .int .u8 0, .int .u8 0, .int .u8 0, .int .u8 0, .int .u8 0, .int .u8 0, .int .u8 0, .int .u8 0, .int .u8 0, .int .u8 0, .int .u8 0, .int .u8 0, .int .u8 0, .int .u8 0, .int .u8 0, .int .u8 0, .int .u8 0, .int .u8 0, .int .u8 0, .int .u8 0, .int .u8 0, .int .u8 0, .int .u8 0, .int .u8 0, .int .u8 0, .int .u8 0, .int .u8 0, .int .u8 0, .int .u8 0, .int .u8 0, .int .u8 0, .int .u8 0, .int .u8 0, .int .u8 0, .int .u8 0, .int .u8 0, .int .u8 0, .int .u8 0, .int .u8 0, .int .u8 0, .int .u8 0, .int .u8 0, .int .u8 0, .int .u8 0, .int .u8 0, .int .u8 0, .int .u8 0, .int .u8 0, .int .u8 0, .int .u8 0, .int .u8 0, .int .u8 0, .int .u8 0, .int .u8 0, .int .u8 0, .int .u8 0, .int .u8 0, .int .u8 0, .int .u8 0, .int .u8 0, .int .u8 0, .int .u8 0, .int .u8 0, .int .u8 0, .int .u8 0, .int .u8 0, .int .u8 0, .int .u8 0, .int .u8 0, .int .u8 0, .int .u8 0, .int .u8 0, .int .u8 0, .int .u8 0, .int .u8 0, .int .u8 0, .int .u8 0, .int .u8 0, .int .u8 0, .int .u8 0, .int .u8 0, .int .u8 0, .int .u8 0, .int .u8 0, .int .u8 0, .int .u8 0, .int .u8 0, .int .u8 0, .int .u8 0, .int .u8 0, .int .u8 0, .int .u8 0, .int .u8 0, .int .u8 0, .int .u8 0, .int .u8 0, .int .u8 0, .int .u8 0, .int .u8 0, .int .u8 0, .int .u8 0, .int .u8 0, .int .u8 0, .int .u8 0, .int .u8 0, .int .u8 0, .int .u8 0, .int .u8 0, .int .u8 0, .int .u8 0, .int .u8 0, .int .u8 0, .int .u8 0, .int .u8 0, .int .u8 0, .int .u8 0, .int .u8 0, .int .u8 0, .int .u8 0, .int .u8 0, .int .u8 0, .int .u8 0, .int .u8 0, .int .u8 0, .int .u8 0, .int .u8 0, .int .u8 0, .int .u8 0, .int .u8 0, .int .u8 0, .int .u8 0, .int .u8 0, .int .u8 0, .int .u8 0, .int .u8 0, .int .u8 0, .int .u8 0, .int .u8 0, .int .u8 0, .int .u8 0, .int .u8 0, .int .u8 0, .int .u8 0, .int .u8 0, .int .u8 0, .int .u8 0, .int .u8 0, .int .u8 0, .int .u8 0, .int .u8 0, .int .u8 0, .int .u8 0, .int .u8 0, .int .u8 0, .int .u8 0, .int .u8 0, .int .u8 0, .int .u8 0, .int .u8 0, .int .u8 0, .int .u8 0, .int .u8 0, .int .u8 0, .int .u8 0, .int .u8 0, .int .u8 0, .int .u8 0, .int .u8 0, .int .u8 0, .int .u8 0, .int .u8 0, .int .u8 0, .int .u8 0, .int .u8 0, .int .u8 0, .int .u8 0, .int .u8 0, .int .u8 0, .int .u8 0, .int .u8 0, .int .u8 0, .int .u8 0, .int .u8 0, .int .u8 0, .int .u8 0, .int .u8 0, .int .u8 0, .int .u8 0, .int .u8 0, .int .u8 0, .int .u8 0, .int .u8 0, .int .u8 0, .int .u8 0, .int .u8 0, .int .u8 0, .int .u8 0, .int .u8 0, .int .u8 0, .int .u8 0, .int .u8 0]), 256, 256) .nil) 426 ((.agg #[.int .u8 0, .int .u8 0]), 2, 2) .nil)) 427 ((.agg #[.int .u8 0, .int .u8 0, .int .u8 0, .int .u8 0, .int .u8 0, .int .u8 0, .int .u8 0, .int .u8 0, .int .u8 0, .int .u8 0, .int .u8 0, .int .u8 0, .int .u8 0, .int .u8 0, .int .u8 0, .int .u8 0, .int .u8 0, .int .u8 0, .int .u8 0, .int .u8 0, .int .u8 0, .int .u8 0, .int .u8 0, .int .u8 0, .int .u8 0, .int .u8 0, .int .u8 0, .int .u8 0, .int .u8 0, .int .u8 0, .int .u8 0, .int .u8 0]), 32, 32) (.node (.node (.node .nil 432 ((.agg #[.string ByteArray.empty]), 1, 16) .nil) 438 ((.agg #[.int .u8 0, .int .u8 0, .int .u8 0, .int .u8 0, .int .u8 0, .int .u8 0, .int .u8 0, .int .u8 0, .int .u8 0, .int .u8 0, .int .u8 0, .int .u8 0, .int .u8 0, .int .u8 0, .int .u8 0, .int .u8 0, .int .u8 0, .int .u8 0, .int .u8 0, .int .u8 0, .int .u8 0, .int .u8 0, .int .u8 0, .int .u8 0, .int .u8 0, .int .u8 0, .int .u8 0, .int .u8 0, .int .u8 0, .int .u8 0, .int .u8 0, .int .u8 0]), 32, 32) .nil) 439 ((.agg #[.int .u8 0, .int .u8 0, .int .u8 0, .int .u8 0, .int .u8 0, .int .u8 0, .int .u8 0, .int .u8 0, .int .u8 0, .int .u8 0, .int .u8 0, .int .u8 0, .int .u8 0, .int .u8 0, .int .u8 0, .int .u8 0, .int .u8 0, .int .u8 0, .int .u8 0, .int .u8 0, .int .u8 0, .int .u8 0, .int .u8 0, .int .u8 0, .int .u8 0, .int .u8 0, .int .u8 0, .int .u8 0, .int .u8 0, .int .u8 0, .int .u8 0, .int .u8 0, .int .u8 0, .int .u8 0, .int .u8 0, .int .u8 0, .int .u8 0, .int .u8 0, .int .u8 0, .int .u8 0, .int .u8 0, .int .u8 0, .int .u8 0, .int .u8 0, .int .u8 0, .int .u8 0, .int .u8 0, .int .u8 0, .int .u8 0, .int .u8 0, .int .u8 0, .int .u8 0, .int .u8 0, .int .u8 0, .int .u8 0, .int .u8 0, .int .u8 0, .int .u8 0, .int .u8 0, .int .u8 0, .int .u8 0, .int .u8 0, .int .u8 0, .int .u8 0]), 64, 64) (.node .nil 441 ((.agg #[.int .i64 0, .int .i64 0, .int .i64 0]), 3, 24) .nil))))))
theorem kI : bI.toL.map (fun p => tyI Tryz.prog p.1) = bI.toL.map Prod.snd := by kernel_rfl
theorem kI2 : (bI.toL.all fun p => match Tryz.prog.info? p.1 with | some i => i.zero.isSome | none => false) = true := by kernel_rfl
def bB : BT (List (Nat × Nat)) := (.node (.node (.node (.node (.node (.node .nil 25 [(0, 1), (1, 1)] .nil) 39 [(0, 1), (1, 1), (2, 1), (3, 1), (4, 1), (5, 1), (6, 1), (7, 1), (8, 1), (9, 1)] .nil) 51 [(0, 1), (1, 1)] (.node .nil 56 [(0, 1), (1, 1)] .nil)) 58 [(0, 1), (1, 1)] (.node (.node .nil 88 [(0, 1), (1, 1)] .nil) 112 [(0, 1), (1, 1)] (.node .nil 120 [(0, 1), (1, 1), (2, 1), (3, 1), (4, 1), (5, 1), (6, 1)] .nil))) 123 [(0, 1), (1, 1), (2, 1), (3, 1), (4, 1), (5, 1)] (.node (.node (.node (.node .nil 131 [(0, 1), (1, 1)] .nil) 137 [(0, 1), (1, 1), (2, 1), (3, 1)] .nil) 141 [(0, 1), (1, 1)] (.node .nil 144 [(0, 1), (1, 1), (2, 1), (3, 1), (4, 1), (5, 1), (6, 1), (7, 1)] .nil)) 148 [(0, 1), (1, 1), (2, 1), (3, 1), (4, 1), (5, 1)] (.node (.node .nil 160 [(0, 1), (1, 1)] .nil) 167 [(0, 1), (1, 1), (2, 1), (3, 1), (4, 1), (5, 1)] (.node .nil 171 [(0, 1), (1, 1), (2, 1), (3, 1), (4, 1), (5, 1)] .nil)))) 183 [(0, 1), (1, 1), (2, 1), (3, 1), (4, 1)] (.node (.node (.node (.node (.node .nil 193 [(0, 1), (1, 1)] .nil) 208 [(0, 1), (1, 1), (2, 1)] .nil) 210 [(0, 1), (1, 1), (2, 1)] (.node .nil 213 [(0, 1), (1, 1)] .nil)) 218 [(0, 1), (1, 1), (2, 1)] (.node (.node .nil 222 [(0, 1), (1, 1)] .nil) 265 [(0, 1), (1, 1)] (.node .nil 320 [(0, 1), (1, 1)] .nil))) 328 [(0, 1), (1, 1)] (.node (.node (.node (.node .nil 337 [(0, 1), (1, 2), (3, 2)] .nil) 344 [(0, 1), (1, 1), (2, 1), (3, 1), (4, 1), (5, 1)] .nil) 348 [(0, 1), (1, 1), (2, 1), (3, 1), (4, 1), (5, 1), (6, 1)] (.node .nil 383 [(0, 1), (1, 2), (3, 2)] .nil)) 390 [(0, 2), (2, 2), (4, 2)] (.node (.node .nil 407 [(0, 1), (1, 1), (2, 1)] .nil) 426 [(0, 1), (1, 1)] (.node .nil 432 [(0, 1)] .nil)))))
theorem kB : bB.toL.map (fun p => (bplaces Tryz.prog p.1).getD []) = bB.toL.map Prod.snd := by kernel_rfl
theorem kB2 : (bB.toL.all fun p => (bplaces Tryz.prog p.1).isSome) = true := by kernel_rfl
def bE : BT (TypeId × Nat) := (.node (.node (.node (.node (.node .nil 22 (3, 1) .nil) 26 (39, 10) .nil) 46 (51, 2) (.node (.node .nil 61 (9, 1) .nil) 86 (5, 1) .nil)) 108 (26, 1) (.node (.node (.node .nil 118 (30, 1) .nil) 125 (329, 1) .nil) 128 (208, 3) (.node (.node .nil 129 (210, 3) .nil) 133 (222, 2) .nil))) 142 (141, 2) (.node (.node (.node (.node .nil 149 (148, 6) .nil) 214 (218, 3) .nil) 219 (265, 2) (.node (.node .nil 324 (328, 2) .nil) 326 (320, 2) .nil)) 329 (265, 2) (.node (.node (.node .nil 333 (337, 5) .nil) 342 (4, 1) .nil) 349 (348, 7) (.node .nil 380 (383, 5) .nil))))
theorem kE : bE.toL.map (fun p => (elemSz Tryz.prog p.1).getD (0, 0)) = bE.toL.map Prod.snd := by kernel_rfl
theorem kE2 : (bE.toL.all fun p => (elemSz Tryz.prog p.1).isSome) = true := by kernel_rfl
def bF : BT (List Nat) := (.node (.node (.node (.node (.node (.node .nil 25 [0, 1] .nil) 39 [0, 1, 2, 3, 4, 5, 6, 7, 8, 9] .nil) 51 [0, 1] (.node .nil 56 [0, 1] .nil)) 58 [0, 1] (.node (.node .nil 88 [0, 1] .nil) 112 [0, 1] (.node .nil 120 [0, 1, 2, 3, 4, 5, 6] .nil))) 123 [0, 1, 2, 3, 4, 5] (.node (.node (.node (.node .nil 131 [0, 1] .nil) 137 [0, 1, 2, 3] .nil) 141 [0, 1] (.node .nil 144 [0, 1, 2, 3, 4, 5, 6, 7] .nil)) 148 [0, 1, 2, 3, 4, 5] (.node (.node .nil 160 [0, 1] .nil) 167 [0, 1, 2, 3, 4, 5] (.node .nil 171 [0, 1, 2, 3, 4, 5] .nil)))) 183 [0, 1, 2, 3, 4] (.node (.node (.node (.node (.node .nil 193 [0, 1] .nil) 208 [0, 1, 2] .nil) 210 [0, 1, 2] (.node .nil 213 [0, 1] .nil)) 218 [0, 1, 2] (.node (.node .nil 222 [0, 1] .nil) 265 [0, 1] (.node .nil 320 [0, 1] .nil))) 328 [0, 1] (.node (.node (.node (.node .nil 337 [0, 1, 3] .nil) 344 [0, 1, 2, 3, 4, 5] .nil) 348 [0, 1, 2, 3, 4, 5, 6] (.node .nil 383 [0, 1, 3] .nil)) 390 [0, 2, 4] (.node (.node .nil 407 [0, 1, 2] .nil) 426 [0, 1] (.node .nil 432 [0] .nil)))))
theorem kF : bF.toL.map (fun p => fieldsOf Tryz.prog p.1) = bF.toL.map Prod.snd := by kernel_rfl
theorem kF2 : (bF.toL.all fun p => p.2.all (· != 999)) = true := by kernel_rfl
theorem kA : (bE.toL.all fun p => elemTyB Tryz.prog p.1 p.2) = true := by kernel_rfl
theorem KK {t : TypeId} {r : Option Nat} (h : bK.get t = some r) : ldk Tryz.prog t = some r := by
 have h1 := BT.of (f := tyK Tryz.prog) kK h
 have h2 := List.all_eq_true.1 kK2 _ (BT.mem h)
 unfold tyK at h1
 cases hk : ldk Tryz.prog t with
 | none => simp only [hk] at h2; cases h2
 | some x => rw [hk] at h1; simpa using h1
theorem KI {t : TypeId} {z : Value} {n b : Nat} (h : bI.get t = some (z, n, b)) : (Tryz.prog.info? t).map (fun i => (i.zero, i.size, i.bytes)) = some (some z, n, b) := by
 have h1 := BT.of (f := tyI Tryz.prog) kI h
 have h2 := List.all_eq_true.1 kI2 _ (BT.mem h)
 unfold tyI at h1
 cases hk : Tryz.prog.info? t with
 | none => simp only [hk] at h2; cases h2
 | some i =>
  simp only [hk] at h2
  rw [hk] at h1
  obtain ⟨z', hz⟩ := Option.isSome_iff_exists.1 h2
  simp only [Prod.mk.injEq, hz, Option.getD_some] at h1
  simp only [Option.map_some, hz, Option.some.injEq, Prod.mk.injEq]
  exact h1
theorem KZ {t : TypeId} {z : Value} {q : Nat × Nat} (h : bI.get t = some (z, q)) : (Tryz.prog.info? t).bind (·.zero) = some z := by
 obtain ⟨n, b⟩ := q
 have := KI h
 cases hk : Tryz.prog.info? t with
 | none => rw [hk] at this; cases this
 | some i => rw [hk] at this; simp only [Option.map_some, Option.some.injEq, Prod.mk.injEq] at this; exact this.1
theorem KS {t : TypeId} {z : Value} {n b : Nat} (h : bI.get t = some (z, n, b)) : (Tryz.prog.info? t).map (·.size) = some n := by
 have := KI h
 cases hk : Tryz.prog.info? t with
 | none => rw [hk] at this; cases this
 | some i => rw [hk] at this; simp only [Option.map_some, Option.some.injEq, Prod.mk.injEq] at this; simp [this.2.1]
theorem KB {t : TypeId} {l : List (Nat × Nat)} (h : bB.get t = some l) : bplaces Tryz.prog t = some l := BT.of (f := fun t => (bplaces Tryz.prog t).getD []) kB h ▸ (by
 have h2 := List.all_eq_true.1 kB2 _ (BT.mem h)
 cases hk : bplaces Tryz.prog t with
 | none => simp only [hk] at h2; cases h2
 | some x => rfl)
theorem KE {t : TypeId} {q : TypeId × Nat} (h : bE.get t = some q) : elemSz Tryz.prog t = some q := BT.of (f := fun t => (elemSz Tryz.prog t).getD (0, 0)) kE h ▸ (by
 have h2 := List.all_eq_true.1 kE2 _ (BT.mem h)
 cases hk : elemSz Tryz.prog t with
 | none => simp only [hk] at h2; cases h2
 | some x => rfl)
theorem KA {t e : TypeId} {sz : Nat} (h : bE.get t = some (e, sz)) : ElemTy Tryz.prog t e sz := elemTyB_of (List.all_eq_true.1 kA _ (BT.mem h))
theorem KU {t e : TypeId} {sz : Nat} (h : bE.get t = some (e, sz)) : Tryz.prog.underlying t = some (.slice e) := (zL (KE h)).1
theorem KF {t f : Nat} {l : List Nat} {off : Nat} (h : bF.get t = some l) (hf : l[f]? = some off) : fieldOff Tryz.prog t f = some off := by
 have h1 := BT.of (f := fieldsOf Tryz.prog) kF h
 have h2 := List.all_eq_true.1 kF2 _ (BT.mem h)
 subst h1
 unfold fieldsOf at hf h2
 split at hf
 ·rename_i fs hu
  simp only [hu] at h2
  rw [List.getElem?_map] at hf
  cases hr : (List.range fs.size)[f]? with
  | none => rw [hr] at hf; cases hf
  | some f' =>
   rw [hr] at hf
   have hlt := (List.getElem?_eq_some_iff.1 hr).1
   rw [List.getElem?_range (by simpa using hlt)] at hr
   injection hr with hr
   subst hr
   simp only [Option.map_some, Option.some.injEq] at hf
   have h3 := List.all_eq_true.1 h2 off (by
    refine List.mem_map.2 ⟨f, ?_, hf⟩
    simpa using hlt)
   cases hk : fieldOff Tryz.prog t f with
   | none => rw [hk] at hf; simp only [Option.getD_none] at hf; subst hf; simp at h3
   | some x => rw [hk] at hf; simpa using hf
 ·simp at hf
section
variable {N : Nat} {E : Env} {F : Fm} {H : List OB} {o : Oper} {Q : Exit → Fm → List OB → Prop} {ops : Array Oper} {rest : List Oper}
def gok (ops : Array Oper) (o : Oper) (F : Fm) : Bool := match o.guard with
 | none => true
 | some _ => match gd ops o F with
  | some true => true
  | _ => false
theorem zu2 {P : Program} {S : Nat → Prop} {ρ : List (Option Nat)} {a : Act} {w : World} (h : gok ops o F = true) (hR : R N E S ρ F H a w) : Region.wanted o (yielded ops a.tmps) = true := by
 unfold gok at h
 cases hg : o.guard with
 | none => simp [Region.wanted, hg]
 | some g =>
  rw [hg] at h
  dsimp only at h
  cases hd : gd ops o F with
  | none => rw [hd] at h; cases h
  | some c =>
   rw [hd] at h
   cases c
   ·cases h
   ·obtain ⟨j, b, oj, t, h1, h2, h3, ⟨b', h4, h5⟩ | ⟨_, h5⟩⟩ := gd_of hd
    ·obtain rfl : b' = b := by simpa using h5
     rw [hg] at h1
     injection h1 with h1
     subst h1
     simp [Region.wanted, hg, zI1 hR h2 h3 h4]
    ·cases h5
theorem al_gok {P : Program} (h : gok ops o F = true) (k : AL P N E ops ({ o with guard := none } :: rest) F H Q) : AL P N E ops (o :: rest) F H Q := by
 unfold gok at h
 cases hg : o.guard with
 | none =>
  have : ({ o with guard := none } : Oper) = o := by cases o; simp only at hg; subst hg; rfl
  rwa [this] at k
 | some g =>
  rw [hg] at h
  dsimp only at h
  cases hd : gd ops o F with
  | none => rw [hd] at h; cases h
  | some c =>
   rw [hd] at h
   cases c
   ·cases h
   ·exact G1 hd k
theorem zN {P : Program} {d : Nat} {x : AV} (hr : Rd P N E o F H x) (h : AL P N E ops rest ((d, x) :: F) H Q) (hg : gok ops o F = true := by exact rfl) (hd : o.dst = some d := by exact rfl) (hN : d < N := by decide) : AL P N E ops (o :: rest) F H Q :=
 al_gok hg (zb3 (o := { o with guard := none }) rfl hd hN hr h)
theorem al_efg {P : Program} {F2 : Fm} {H2 : List OB} (hr : Ef P N E o F H fun F' H' => F' = F2 ∧ H' = H2) (h : AL P N E ops rest F2 H2 Q) (hg : gok ops o F = true := by exact rfl) : AL P N E ops (o :: rest) F H Q :=
 al_gok hg (al_ef2 (o := { o with guard := none }) rfl hr h)
def AT1 (P : Program) (N : Nat) (E : Env) (ops : Array Oper) (o : Oper) (i : Nat) (U : Option (List Nat)) (L : List (Nat × Option (List Nat))) (F : Fm) (H : List OB) (Q : Exit → Fm → List OB → Prop) : Prop := ops[i]? = some o → AT P N E ops ((i, U) :: L) F H Q
theorem zM {P : Program} {i d : Nat} {x : AV} {L : List (Nat × Option (List Nat))} (hr : Rd P N E o F H x) (h : AT P N E ops L ((d, x) :: F) H Q) (hg : gok ops o F = true := by exact rfl) (hd : o.dst = some d := by exact rfl) (hN : d < N := by decide) : AT1 P N E ops o i none L F H Q := fun ho S ρ a w hR => by
 obtain ⟨h1, h2⟩ := hr S ρ a w hR
 refine wpT_r ho fun K hK => ?_
 rw [if_pos (zu2 (P := P) hg hR)]
 unfold Oper.still
 rw [h1]
 refine ⟨rfl, hK _ ?_⟩
 rw [hd]
 exact h S ρ _ w (hR.put hN h2)
theorem at_efg {P : Program} {F2 : Fm} {H2 : List OB} {i : Nat} {U : List Nat} {L : List (Nat × Option (List Nat))} (hr : Ef P N E o F H fun F' H' => F' = F2 ∧ H' = H2) (hU : ∀ j ∈ U, Ag P N E ops F2 H2 j) (h : AT P N E ops L F2 H2 Q) (hg : gok ops o F = true := by exact rfl) : AT1 P N E ops o i (some U) L F H Q := fun ho S ρ a w hR => by
 refine wpT_e ho fun K' hK => ?_
 rw [if_pos (zu2 (P := P) hg hR)]
 refine zg1 (fun a' w' hh => ?_) (hr S ρ a w hR)
 obtain ⟨S', ρ', F', H', ⟨h1, h2⟩, hR'⟩ := hh
 subst h1; subst h2
 exact hK _ _ (fun j hj => hU j hj S' ρ' a' w' hR') (h S' ρ' a' w' hR')
def rdV (op : Op) (F : Fm) (H : List OB) : Option AV :=
 match op with
 | .move x => ev F x
 | .assign x => ev F x
 | .pick c x y => (match ev F c with
  | some (.c (.s (.bool true))) => ev F x
  | some (.c (.s (.bool false))) => ev F y
  | _ => none)
 | .extract x i => (match ev F x with
  | some (.t l) => l[i]?
  | _ => none)
 | .load t x => (match bK.get t with
  | some none => (match ev F x with
   | some (.p b 0 j) => (match H[b]? with
    | some (.box l) => l[j]?
    | some (.boxt _ l) => l[j]?
    | _ => none)
   | some (.q _ _ _ row j) => (match row[j]? with
    | some u => some (.c u)
    | none => none)
   | _ => none)
  | _ => none)
 | .fieldAddr t x f => (match bF.get t with
  | some l => (match l[f]? with
   | some off => fldC off (ev F x)
   | none => none)
  | none => none)
 | .nilCheck x => (match ev F x with
  | some (.p b k j) => some (.p b k j)
  | some (.q v k sz row j) => some (.q v k sz row j)
  | some (.c (.p v row)) => some (.c (.p v row))
  | some (.c (.s (.pointer (some ad)))) => some (.c (.s (.pointer (some ad))))
  | _ => none)
 | .unOp .not _ x => (match ev F x with
  | some (.c (.s (.bool b))) => some (.c (.s (.bool (!b))))
  | _ => none)
 | .call ⟨.builtin .len, ⟨[x]⟩, ⟨[t]⟩⟩ => (match bE.get t with
  | some _ => (match lenC (ev F x) with
   | some n => some (.c (.s (.int .i64 n)))
   | none => none)
  | none => none)
 | .call ⟨.builtin .cap, ⟨[x]⟩, ⟨[t]⟩⟩ => (match bE.get t with
  | some _ => (match ev F x with
   | some (.o _ _ _ c) => some (.c (.s (.int .i64 c)))
   | _ => none)
  | none => none)
 | _ => none
end
end Go.Proofs.YtlhbfcfjepbhpaaGreatDoor
