/- Pointers that are compared with nil. -/
import Derived.Test.YtophoepbedlhjaaGreatDoorProg
import Derived.Test.YtophoepbedlhjaaGreatDoorQal
import Derived.Test.YtophoepbedlhjaaGreatDoorQam
import Derived.Laws.Strings
import Derived.Laws.Pointers
set_option linter.unusedSimpArgs false
set_option linter.unusedVariables false
namespace Go.Proofs.YtophoepbedlhjaaGreatDoor
section
open Go Go.RowKit
set_option maxRecDepth 100000
theorem zo:Tryz.prog.follows .mixedOrders=true:=by kernel_rfl
inductive BT (α:Type) where
 | nil
 | node (l:BT α) (k:Nat) (v:α) (r:BT α)
def BT.get {α:Type}:BT α→Nat→Option α
 | .nil,_=>none
 | .node l k v r,t=>match Nat.beq t k with
  | true=>some v
  | false=>match Nat.blt t k with
   | true=>l.get t
   | false=>r.get t
def BT.toL {α:Type}:BT α→List (Nat × α)
 | .nil=>[]
 | .node l k v r=>l.toL++(k,v) :: r.toL
theorem BT.mem {α:Type} {t:Nat} {v:α}:∀{T:BT α},T.get t=some v→(t,v)∈T.toL
 | .nil,h=>by cases h
 | .node l k u r,h=>by
  rw[BT.get] at h
  rw[BT.toL,List.mem_append,List.mem_cons]
  split at h
  ·rename_i hk
   obtain rfl:t=k:=Nat.eq_of_beq_eq_true hk
   injection h with h
   exact .inr (.inl (by rw[h]))
  ·split at h
   ·exact .inl (BT.mem h)
   ·exact .inr (.inr (BT.mem h))
theorem BT.of {α:Type} {f:Nat→α} {T:BT α} (h:T.toL.map (fun p=>f p.1)=T.toL.map Prod.snd) {t:Nat} {r:α} (hl:T.get t=some r):f t=r:=by
 have:=List.map_inj_left.1 h _ (BT.mem hl)
 exact this
def tyI (P:Program) (t:TypeId):Value × Nat × Nat:=match P.info? t with
 | some i=>(i.zero.getD undef,i.size,i.bytes)
 | none=>(undef,0,0)
def tyK (P:Program) (t:TypeId):Option Nat:=(ldk P t).getD none
def fieldsOf (P:Program) (t:TypeId):List Nat:=match P.underlying t with
 | some (.struct fs)=>(List.range fs.size).map fun f=>(fieldOff P t f).getD 999
 | _=>[]
def elemTyB (P:Program) (t:TypeId) (q:TypeId × Nat):Bool:=match P.underlying t with
 | some (.slice e)=>e == q.1 && match P.info? q.1 with
  | some i=>i.size == q.2 && Nat.ble i.bytes 256 && Nat.blt 0 q.2 && match i.zero with
   | some z=>z.cells.size == q.2
   | none=>false
  | none=>false
 | _=>false
theorem zR9 {P:Program} {t e:TypeId} {sz:Nat} (h:elemTyB P t (e,sz)=true):ElemTy P t e sz:=by
 unfold elemTyB at h
 split at h
 ·rename_i e' hu
  rw[Bool.and_eq_true] at h
  obtain⟨h1,h2⟩:=h
  obtain rfl:e'=e:=by simpa using h1
  split at h2
  ·rename_i i hi
   simp only[Bool.and_eq_true,beq_iff_eq,Nat.ble_eq,Nat.blt_eq] at h2
   obtain⟨⟨⟨g1,g2⟩,g3⟩,g4⟩:=h2
   split at g4
   ·rename_i z hz
    exact⟨hu,⟨i,z,hi,hz,g1,g2,by simpa using g4⟩,g3⟩
   ·cases g4
  ·cases h2
 ·cases h
def bK:BT (Option Nat):=(.node (.node (.node (.node (.node (.node (.node .nil 2 none .nil) 3 none (.node .nil 4 none .nil)) 5 none (.node (.node .nil 9 none .nil) 21 none .nil)) 22 none (.node (.node (.node .nil 23 none .nil) 25 (some 2) .nil) 26 none (.node (.node .nil 27 none .nil) 29 (some 2) .nil))) 31 none (.node (.node (.node (.node .nil 37 (some 10) .nil) 38 none .nil) 39 none (.node (.node .nil 43 (some 2) .nil) 47 none .nil)) 52 (some 2) (.node (.node (.node .nil 60 (some 2) .nil) 61 none .nil) 86 none (.node (.node .nil 90 (some 3) .nil) 97 (some 3) .nil)))) 98 none (.node (.node (.node (.node (.node .nil 105 (some 2) .nil) 106 none .nil) 107 none (.node (.node .nil 110 none .nil) 111 none .nil)) 112 none (.node (.node (.node .nil 114 (some 7) .nil) 117 (some 6) .nil) 122 none (.node (.node .nil 134 none .nil) 136 (some 2) .nil))) 137 none (.node (.node (.node (.node .nil 138 none .nil) 140 (some 2) .nil) 142 none (.node (.node .nil 154 none .nil) 156 (some 6) .nil)) 157 none (.node (.node (.node .nil 160 (some 6) .nil) 172 (some 2) .nil) 176 none (.node (.node .nil 180 (some 4) .nil) 182 (some 8) .nil))))) 186 (some 6) (.node (.node (.node (.node (.node (.node .nil 187 none .nil) 189 (some 2) .nil) 195 (some 6) (.node (.node .nil 198 none .nil) 208 none .nil)) 211 none (.node (.node (.node .nil 215 none .nil) 224 none .nil) 233 (some 5) (.node (.node .nil 235 none .nil) 237 (some 2) .nil))) 239 none (.node (.node (.node (.node .nil 241 (some 2) .nil) 242 none .nil) 246 (some 3) (.node (.node .nil 247 none .nil) 250 (some 2) .nil)) 274 none (.node (.node (.node .nil 277 none .nil) 303 (some 256) .nil) 307 none (.node (.node .nil 325 (some 2) .nil) 329 (some 4) .nil)))) 330 none (.node (.node (.node (.node (.node .nil 340 none .nil) 343 (some 2) .nil) 344 none (.node (.node .nil 348 none .nil) 352 (some 5) .nil)) 360 none (.node (.node (.node .nil 385 (some 6) .nil) 388 (some 7) .nil) 389 none (.node (.node .nil 394 none .nil) 397 (some 5) .nil))) 402 (some 6) (.node (.node (.node (.node .nil 420 (some 24) .nil) 429 (some 3) .nil) 447 (some 20) (.node (.node .nil 448 (some 65) .nil) 449 (some 256) .nil)) 451 (some 2) (.node (.node (.node .nil 452 (some 32) .nil) 457 (some 1) .nil) 464 (some 3) (.node (.node .nil 480 (some 32) .nil) 481 (some 64) .nil))))))
theorem kK:bK.toL.map (fun p=>tyK Tryz.prog p.1)=bK.toL.map Prod.snd:=by kernel_rfl
theorem kK2:(bK.toL.all fun p=>(ldk Tryz.prog p.1).isSome)=true:=by kernel_rfl
def bI:BT (Value × Nat × Nat):=(.node (.node (.node (.node (.node (.node (.node .nil 2 ((.int .i64 0),1,8) .nil) 3 ((.int .i64 0),1,8) (.node .nil 4 ((.bool false),1,1) .nil)) 5 ((.int .u8 0),1,1) (.node (.node .nil 9 ((.string ByteArray.empty),1,16) .nil) 21 ((.int .i32 0),1,4) .nil)) 22 ((.slice none 0 0),1,24) (.node (.node (.node .nil 23 ((.pointer none),1,8) .nil) 25 ((.agg #[.slice none 0 0,.int .i64 0]),2,32) .nil) 26 ((.slice none 0 0),1,24) (.node (.node .nil 27 ((.slice none 0 0),1,24) .nil) 29 ((.agg #[.slice none 0 0,.slice none 0 0]),2,48) .nil))) 31 ((.int .i64 0),1,8) (.node (.node (.node (.node .nil 37 ((.agg #[.string ByteArray.empty,.int .i64 0,.int .i64 0,.int .i64 0,.string ByteArray.empty,.string ByteArray.empty,.string ByteArray.empty,.int .i64 0,.string ByteArray.empty,.int .i64 0]),10,120) .nil) 38 ((.slice none 0 0),1,24) .nil) 39 ((.slice none 0 0),1,24) (.node (.node .nil 43 ((.agg #[.int .i64 0,.int .i64 0]),2,16) .nil) 47 ((.slice none 0 0),1,24) .nil)) 52 ((.agg #[.string ByteArray.empty,.string ByteArray.empty]),2,32) (.node (.node (.node .nil 60 ((.agg #[.int .i64 0,.int .i64 0]),2,16) .nil) 61 ((.slice none 0 0),1,24) .nil) 86 ((.slice none 0 0),1,24) (.node (.node .nil 90 ((.agg #[.int .i64 0,.int .i64 0,.int .i64 0]),3,24) .nil) 97 ((.agg #[.int .i64 0,.int .i64 0,.int .i64 0]),3,24) .nil)))) 98 ((.slice none 0 0),1,24) (.node (.node (.node (.node (.node .nil 105 ((.agg #[.int .i64 0,.int .i64 0]),2,16) .nil) 106 ((.slice none 0 0),1,24) .nil) 107 ((.pointer none),1,8) (.node (.node .nil 110 ((.map none),1,8) .nil) 111 ((.map none),1,8) .nil)) 112 ((.map none),1,8) (.node (.node (.node .nil 114 ((.agg #[.map none,.map none,.map none,.map none,.map none,.slice none 0 0,.slice none 0 0]),7,88) .nil) 117 ((.agg #[.string ByteArray.empty,.int .i64 0,.int .i64 0,.int .i64 0,.int .i64 0,.int .i64 0]),6,56) .nil) 122 ((.slice none 0 0),1,24) (.node (.node .nil 134 ((.pointer none),1,8) .nil) 136 ((.agg #[.slice none 0 0,.int .i64 0]),2,32) .nil))) 137 ((.pointer none),1,8) (.node (.node (.node (.node .nil 138 ((.slice none 0 0),1,24) .nil) 140 ((.agg #[.pointer none,.slice none 0 0]),2,32) .nil) 142 ((.nilIface),1,16) (.node (.node .nil 154 ((.map none),1,8) .nil) 156 ((.agg #[.map none,.map none,.map none,.map none,.slice none 0 0,.slice none 0 0]),6,80) .nil)) 157 ((.pointer none),1,8) (.node (.node (.node .nil 160 ((.agg #[.string ByteArray.empty,.string ByteArray.empty,.slice none 0 0,.int .i64 0,.int .i64 0,.int .i64 0]),6,80) .nil) 172 ((.agg #[.string ByteArray.empty,.int .i64 0]),2,24) .nil) 176 ((.slice none 0 0),1,24) (.node (.node .nil 180 ((.agg #[.int .i64 0,.int .i64 0,.int .i64 0,.slice none 0 0]),4,48) .nil) 182 ((.agg #[.int .i64 0,.int .i64 0,.int .i64 0,.int .i64 0,.int .i64 0,.int .i64 0,.int .i64 0,.bool false]),8,64) .nil))))) 186 ((.agg #[.int .i64 0,.int .i64 0,.int .i64 0,.int .i64 0,.int .i64 0,.int .i64 0]),6,48) (.node (.node (.node (.node (.node (.node .nil 187 ((.slice none 0 0),1,24) .nil) 189 ((.agg #[.int .i64 0,.int .i64 0]),2,16) .nil) 195 ((.agg #[.int .i64 0,.int .i64 0,.int .i64 0,.int .i64 0,.int .i64 0,.int .i64 0]),6,48) (.node (.node .nil 198 ((.slice none 0 0),1,24) .nil) 208 ((.nilFunc),1,8) .nil)) 211 ((.int .u64 0),1,8) (.node (.node (.node .nil 215 ((.map none),1,8) .nil) 224 ((.pointer none),1,8) .nil) 233 ((.agg #[.bool false,.bool false,.bool false,.bool false,.int .i64 0]),5,16) (.node (.node .nil 235 ((.pointer none),1,8) .nil) 237 ((.agg #[.slice none 0 0,.bool false]),2,32) .nil))) 239 ((.pointer none),1,8) (.node (.node (.node (.node .nil 241 ((.agg #[.pointer none,.int .i64 0]),2,16) .nil) 242 ((.slice none 0 0),1,24) .nil) 246 ((.agg #[.int .i64 0,.int .i64 0,.int .i64 0]),3,24) (.node (.node .nil 247 ((.slice none 0 0),1,24) .nil) 250 ((.agg #[.slice none 0 0,.bool false]),2,32) .nil)) 274 ((.int .u32 0),1,4) (.node (.node (.node .nil 277 ((.int .u64 0),1,8) .nil) 303 ((.agg (List.replicate 256 (.bool false)).toArray),256,256) .nil) 307 ((.pointer none),1,8) (.node (.node .nil 325 ((.agg #[.int .i64 0,.int .i64 0]),2,16) .nil) 329 ((.agg #[.int .i64 0,.int .i64 0,.int .i64 0,.int .i64 0]),4,32) .nil)))) 330 ((.slice none 0 0),1,24) (.node (.node (.node (.node (.node .nil 340 ((.slice none 0 0),1,24) .nil) 343 ((.agg #[.slice none 0 0,.bool false]),2,32) .nil) 344 ((.slice none 0 0),1,24) (.node (.node .nil 348 ((.slice none 0 0),1,24) .nil) 352 ((.agg #[.int .i64 0,.int .i64 0,.int .i64 0,.int .i64 0,.int .i64 0]),5,40) .nil)) 360 ((.int .u64 0),1,8) (.node (.node (.node .nil 385 ((.agg #[.int .i64 0,.int .i64 0,.int .i64 0,.int .i64 0,.int .i64 0,.slice none 0 0]),6,64) .nil) 388 ((.agg #[.string ByteArray.empty,.bool false,.bool false,.bool false,.bool false,.int .i64 0,.int .i64 0]),7,40) .nil) 389 ((.slice none 0 0),1,24) (.node (.node .nil 394 ((.slice none 0 0),1,24) .nil) 397 ((.agg #[.int .i64 0,.int .i64 0,.int .i64 0,.int .i64 0,.int .i64 0]),5,40) .nil))) 402 ((.agg #[.int .i64 0,.int .i64 0,.int .i64 0,.int .i64 0,.int .i64 0,.int .i64 0]),6,48) (.node (.node (.node (.node .nil 420 ((.agg (List.replicate 24 (.int .u8 0)).toArray),24,24) .nil) 429 ((.agg #[.string ByteArray.empty,.string ByteArray.empty,.nilIface]),3,48) .nil) 447 ((.agg (List.replicate 20 (.int .u64 0)).toArray),20,160) (.node (.node .nil 448 ((.agg (List.replicate 65 (.int .u8 0)).toArray),65,65) .nil) 449 ((.agg (List.replicate 256 (.int .u8 0)).toArray),256,256) .nil)) 451 ((.agg #[.int .u8 0,.int .u8 0]),2,2) (.node (.node (.node .nil 452 ((.agg (List.replicate 32 (.int .u8 0)).toArray),32,32) .nil) 457 ((.agg #[.string ByteArray.empty]),1,16) .nil) 464 ((.agg #[.int .i64 0,.int .i64 0,.int .i64 0]),3,24) (.node (.node .nil 480 ((.agg (List.replicate 32 (.int .u8 0)).toArray),32,32) .nil) 481 ((.agg (List.replicate 64 (.int .u8 0)).toArray),64,64) .nil))))))
theorem kI:bI.toL.map (fun p=>tyI Tryz.prog p.1)=bI.toL.map Prod.snd:=by kernel_rfl
theorem kI2:(bI.toL.all fun p=>match Tryz.prog.info? p.1 with|some i=>i.zero.isSome|none=>false)=true:=by kernel_rfl
def bB:BT (List (Nat × Nat)):=(.node (.node (.node (.node (.node (.node .nil 25 [(0,1),(1,1)] .nil) 29 [(0,1),(1,1)] .nil) 37 [(0,1),(1,1),(2,1),(3,1),(4,1),(5,1),(6,1),(7,1),(8,1),(9,1)] (.node .nil 43 [(0,1),(1,1)] .nil)) 52 [(0,1),(1,1)] (.node (.node .nil 60 [(0,1),(1,1)] .nil) 90 [(0,1),(1,1),(2,1)] (.node .nil 97 [(0,1),(1,1),(2,1)] .nil))) 105 [(0,1),(1,1)] (.node (.node (.node (.node .nil 114 [(0,1),(1,1),(2,1),(3,1),(4,1),(5,1),(6,1)] .nil) 117 [(0,1),(1,1),(2,1),(3,1),(4,1),(5,1)] .nil) 136 [(0,1),(1,1)] (.node .nil 140 [(0,1),(1,1)] .nil)) 156 [(0,1),(1,1),(2,1),(3,1),(4,1),(5,1)] (.node (.node .nil 160 [(0,1),(1,1),(2,1),(3,1),(4,1),(5,1)] .nil) 172 [(0,1),(1,1)] (.node .nil 180 [(0,1),(1,1),(2,1),(3,1)] .nil)))) 182 [(0,1),(1,1),(2,1),(3,1),(4,1),(5,1),(6,1),(7,1)] (.node (.node (.node (.node (.node .nil 186 [(0,1),(1,1),(2,1),(3,1),(4,1),(5,1)] .nil) 189 [(0,1),(1,1)] .nil) 233 [(0,1),(1,1),(2,1),(3,1),(4,1)] (.node .nil 237 [(0,1),(1,1)] .nil)) 241 [(0,1),(1,1)] (.node (.node .nil 246 [(0,1),(1,1),(2,1)] .nil) 250 [(0,1),(1,1)] (.node .nil 325 [(0,1),(1,1)] .nil))) 343 [(0,1),(1,1)] (.node (.node (.node (.node .nil 352 [(0,1),(1,2),(3,2)] .nil) 385 [(0,1),(1,1),(2,1),(3,1),(4,1),(5,1)] .nil) 388 [(0,1),(1,1),(2,1),(3,1),(4,1),(5,1),(6,1)] (.node .nil 397 [(0,1),(1,2),(3,2)] .nil)) 402 [(0,2),(2,2),(4,2)] (.node (.node .nil 429 [(0,1),(1,1),(2,1)] .nil) 451 [(0,1),(1,1)] (.node .nil 457 [(0,1)] .nil)))))
theorem kB:bB.toL.map (fun p=>(bplaces Tryz.prog p.1).getD [])=bB.toL.map Prod.snd:=by kernel_rfl
theorem kB2:(bB.toL.all fun p=>(bplaces Tryz.prog p.1).isSome)=true:=by kernel_rfl
def bE:BT (TypeId × Nat):=(.node (.node (.node (.node (.node .nil 22 (3,1) .nil) 26 (90,3) .nil) 27 (97,3) (.node (.node .nil 38 (37,10) .nil) 39 (52,2) .nil)) 47 (31,1) (.node (.node (.node .nil 61 (9,1) .nil) 86 (189,2) .nil) 98 (344,1) (.node (.node .nil 106 (105,2) .nil) 122 (38,1) .nil))) 138 (5,1) (.node (.node (.node (.node .nil 176 (250,2) .nil) 187 (186,6) .nil) 198 (4,1) (.node (.node .nil 242 (246,3) .nil) 247 (325,2) .nil)) 330 (329,4) (.node (.node (.node .nil 340 (343,2) .nil) 344 (325,2) .nil) 348 (352,5) (.node (.node .nil 389 (388,7) .nil) 394 (397,5) .nil))))
theorem kE:bE.toL.map (fun p=>(elemSz Tryz.prog p.1).getD (0,0))=bE.toL.map Prod.snd:=by kernel_rfl
theorem kE2:(bE.toL.all fun p=>(elemSz Tryz.prog p.1).isSome)=true:=by kernel_rfl
def bF:BT (List Nat):=(.node (.node (.node (.node (.node (.node .nil 25 [0,1] .nil) 29 [0,1] .nil) 37 [0,1,2,3,4,5,6,7,8,9] (.node .nil 43 [0,1] .nil)) 52 [0,1] (.node (.node .nil 60 [0,1] .nil) 90 [0,1,2] (.node .nil 97 [0,1,2] .nil))) 105 [0,1] (.node (.node (.node (.node .nil 114 [0,1,2,3,4,5,6] .nil) 117 [0,1,2,3,4,5] .nil) 136 [0,1] (.node .nil 140 [0,1] .nil)) 156 [0,1,2,3,4,5] (.node (.node .nil 160 [0,1,2,3,4,5] .nil) 172 [0,1] (.node .nil 180 [0,1,2,3] .nil)))) 182 [0,1,2,3,4,5,6,7] (.node (.node (.node (.node (.node .nil 186 [0,1,2,3,4,5] .nil) 189 [0,1] .nil) 233 [0,1,2,3,4] (.node .nil 237 [0,1] .nil)) 241 [0,1] (.node (.node .nil 246 [0,1,2] .nil) 250 [0,1] (.node .nil 325 [0,1] .nil))) 343 [0,1] (.node (.node (.node (.node .nil 352 [0,1,3] .nil) 385 [0,1,2,3,4,5] .nil) 388 [0,1,2,3,4,5,6] (.node .nil 397 [0,1,3] .nil)) 402 [0,2,4] (.node (.node .nil 429 [0,1,2] .nil) 451 [0,1] (.node .nil 457 [0] .nil)))))
theorem kF:bF.toL.map (fun p=>fieldsOf Tryz.prog p.1)=bF.toL.map Prod.snd:=by kernel_rfl
theorem kF2:(bF.toL.all fun p=>p.2.all (· != 999))=true:=by kernel_rfl
theorem kA:(bE.toL.all fun p=>elemTyB Tryz.prog p.1 p.2)=true:=by kernel_rfl
theorem KK {t:TypeId} {r:Option Nat} (h:bK.get t=some r):ldk Tryz.prog t=some r:=by
 have h1:=BT.of (f:=tyK Tryz.prog) kK h
 have h2:=List.all_eq_true.1 kK2 _ (BT.mem h)
 unfold tyK at h1
 cases hk:ldk Tryz.prog t with
 | none=>simp only[hk] at h2;cases h2
 | some x=>rw[hk] at h1;simpa using h1
theorem KI {t:TypeId} {z:Value} {n b:Nat} (h:bI.get t=some (z,n,b)):(Tryz.prog.info? t).map (fun i=>(i.zero,i.size,i.bytes))=some (some z,n,b):=by
 have h1:=BT.of (f:=tyI Tryz.prog) kI h
 have h2:=List.all_eq_true.1 kI2 _ (BT.mem h)
 unfold tyI at h1
 cases hk:Tryz.prog.info? t with
 | none=>simp only[hk] at h2;cases h2
 | some i=>
  simp only[hk] at h2
  rw[hk] at h1
  obtain⟨z',hz⟩:=Option.isSome_iff_exists.1 h2
  simp only[Prod.mk.injEq,hz,Option.getD_some] at h1
  simp only[Option.map_some,hz,Option.some.injEq,Prod.mk.injEq]
  exact h1
theorem KZ {t:TypeId} {z:Value} {q:Nat × Nat} (h:bI.get t=some (z,q)):(Tryz.prog.info? t).bind (·.zero)=some z:=by
 obtain⟨n,b⟩:=q
 have:=KI h
 cases hk:Tryz.prog.info? t with
 | none=>rw[hk] at this;cases this
 | some i=>rw[hk] at this;simp only[Option.map_some,Option.some.injEq,Prod.mk.injEq] at this;exact this.1
theorem KS {t:TypeId} {z:Value} {n b:Nat} (h:bI.get t=some (z,n,b)):(Tryz.prog.info? t).map (·.size)=some n:=by
 have:=KI h
 cases hk:Tryz.prog.info? t with
 | none=>rw[hk] at this;cases this
 | some i=>rw[hk] at this;simp only[Option.map_some,Option.some.injEq,Prod.mk.injEq] at this;simp[this.2.1]
theorem KB {t:TypeId} {l:List (Nat × Nat)} (h:bB.get t=some l):bplaces Tryz.prog t=some l:=BT.of (f:=fun t=>(bplaces Tryz.prog t).getD []) kB h▸(by
 have h2:=List.all_eq_true.1 kB2 _ (BT.mem h)
 cases hk:bplaces Tryz.prog t with
 | none=>simp only[hk] at h2;cases h2
 | some x=>rfl)
theorem KE {t:TypeId} {q:TypeId × Nat} (h:bE.get t=some q):elemSz Tryz.prog t=some q:=BT.of (f:=fun t=>(elemSz Tryz.prog t).getD (0,0)) kE h▸(by
 have h2:=List.all_eq_true.1 kE2 _ (BT.mem h)
 cases hk:elemSz Tryz.prog t with
 | none=>simp only[hk] at h2;cases h2
 | some x=>rfl)
theorem KA {t e:TypeId} {sz:Nat} (h:bE.get t=some (e,sz)):ElemTy Tryz.prog t e sz:=zR9 (List.all_eq_true.1 kA _ (BT.mem h))
theorem KU {t e:TypeId} {sz:Nat} (h:bE.get t=some (e,sz)):Tryz.prog.underlying t=some (.slice e):=(zq (KE h)).1
theorem KF {t f:Nat} {l:List Nat} {off:Nat} (h:bF.get t=some l) (hf:l[f]?=some off):fieldOff Tryz.prog t f=some off:=by
 have h1:=BT.of (f:=fieldsOf Tryz.prog) kF h
 have h2:=List.all_eq_true.1 kF2 _ (BT.mem h)
 subst h1
 unfold fieldsOf at hf h2
 split at hf
 ·rename_i fs hu
  simp only[hu] at h2
  rw[List.getElem?_map] at hf
  cases hr:(List.range fs.size)[f]? with
  | none=>rw[hr] at hf;cases hf
  | some f'=>
   rw[hr] at hf
   have hlt:=(List.getElem?_eq_some_iff.1 hr).1
   rw[List.getElem?_range (by simpa using hlt)] at hr
   injection hr with hr
   subst hr
   simp only[Option.map_some,Option.some.injEq] at hf
   have h3:=List.all_eq_true.1 h2 off (by
    refine List.mem_map.2 ⟨f, ?_,hf⟩
    simpa using hlt)
   cases hk:fieldOff Tryz.prog t f with
   | none=>rw[hk] at hf;simp only[Option.getD_none] at hf;subst hf;simp at h3
   | some x=>rw[hk] at hf;simpa using hf
 ·simp at hf
section
variable {N:Nat} {E:Env} {F:Fm} {H:List OB} {o:Oper} {Q:Exit→Fm→List OB→Prop} {ops:Array Oper} {rest:List Oper}
def gok (ops:Array Oper) (o:Oper) (F:Fm):Bool:=match o.guard with
 | none=>true
 | some _=>match gd ops o F with
  | some true=>true
  | _=>false
theorem zZ2 {P:Program} {S:Nat→Prop} {ρ:List (Option Nat)} {a:Act} {w:World} (h:gok ops o F=true) (hR:R N E S ρ F H a w):Region.wanted o (yielded ops a.tmps)=true:=by
 unfold gok at h
 cases hg:o.guard with
 | none=>simp[Region.wanted,hg]
 | some g=>
  rw[hg] at h
  dsimp only at h
  cases hd:gd ops o F with
  | none=>rw[hd] at h;cases h
  | some c=>
   rw[hd] at h
   cases c
   ·cases h
   ·obtain⟨j,b,oj,t,h1,h2,h3,⟨b',h4,h5⟩|⟨_,h5⟩⟩:=zd8 hd
    ·obtain rfl:b'=b:=by simpa using h5
     rw[hg] at h1
     injection h1 with h1
     subst h1
     simp[Region.wanted,hg,zr1 hR h2 h3 h4]
    ·cases h5
theorem al_gok {P:Program} (h:gok ops o F=true) (k:AL P N E ops ({ o with guard:=none } :: rest) F H Q):AL P N E ops (o :: rest) F H Q:=by
 unfold gok at h
 cases hg:o.guard with
 | none=>
  have:({ o with guard:=none }:Oper)=o:=by cases o;simp only at hg;subst hg;rfl
  rwa [this] at k
 | some g=>
  rw[hg] at h
  dsimp only at h
  cases hd:gd ops o F with
  | none=>rw[hd] at h;cases h
  | some c=>
   rw[hd] at h
   cases c
   ·cases h
   ·exact G1 hd k
theorem zA {P:Program} {d:Nat} {x:AV} (hr:Rd P N E o F H x) (h:AL P N E ops rest ((d,x) :: F) H Q) (hg:gok ops o F=true:=by exact rfl) (hd:o.dst=some d:=by exact rfl) (hN:d < N:=by decide):AL P N E ops (o :: rest) F H Q:=
 al_gok hg (zK11 (o:={ o with guard:=none }) rfl hd hN hr h)
theorem zz5 {P:Program} {F2:Fm} {H2:List OB} (hr:Ef P N E o F H fun F' H'=>F'=F2∧H'=H2) (h:AL P N E ops rest F2 H2 Q) (hg:gok ops o F=true:=by exact rfl):AL P N E ops (o :: rest) F H Q:=
 al_gok hg (al_ef2 (o:={ o with guard:=none }) rfl hr h)
def AT1 (P:Program) (N:Nat) (E:Env) (ops:Array Oper) (o:Oper) (i:Nat) (U:Option (List Nat)) (L:List (Nat × Option (List Nat))) (F:Fm) (H:List OB) (Q:Exit→Fm→List OB→Prop):Prop:=ops[i]?=some o→AT P N E ops ((i,U) :: L) F H Q
theorem zw {P:Program} {i d:Nat} {x:AV} {L:List (Nat × Option (List Nat))} (hr:Rd P N E o F H x) (h:AT P N E ops L ((d,x) :: F) H Q) (hg:gok ops o F=true:=by exact rfl) (hd:o.dst=some d:=by exact rfl) (hN:d < N:=by decide):AT1 P N E ops o i none L F H Q:=fun ho S ρ a w hR=>by
 obtain⟨h1,h2⟩:=hr S ρ a w hR
 refine wpT_r ho fun K hK=>?_
 rw[if_pos (zZ2 (P:=P) hg hR)]
 unfold Oper.still
 rw[h1]
 refine⟨rfl,hK _ ?_⟩
 rw[hd]
 exact h S ρ _ w (hR.put hN h2)
theorem zw5 {P:Program} {F2:Fm} {H2:List OB} {i:Nat} {U:List Nat} {L:List (Nat × Option (List Nat))} (hr:Ef P N E o F H fun F' H'=>F'=F2∧H'=H2) (hU:∀j∈U,Ag P N E ops F2 H2 j) (h:AT P N E ops L F2 H2 Q) (hg:gok ops o F=true:=by exact rfl):AT1 P N E ops o i (some U) L F H Q:=fun ho S ρ a w hR=>by
 refine wpT_e ho fun K' hK=>?_
 rw[if_pos (zZ2 (P:=P) hg hR)]
 refine zT (fun a' w' hh=>?_) (hr S ρ a w hR)
 obtain⟨S',ρ',F',H',⟨h1,h2⟩,hR'⟩:=hh
 subst h1;subst h2
 exact hK _ _ (fun j hj=>hU j hj S' ρ' a' w' hR') (h S' ρ' a' w' hR')
def rdV (op:Op) (F:Fm) (H:List OB):Option AV:=
 match op with
 | .move x=>ev F x
 | .assign x=>ev F x
 | .pick c x y=>(match ev F c with
  | some (.c (.s (.bool true)))=>ev F x
  | some (.c (.s (.bool false)))=>ev F y
  | _=>none)
 | .extract x i=>(match ev F x with
  | some (.t l)=>l[i]?
  | _=>none)
 | .load t x=>(match bK.get t with
  | some none=>(match ev F x with
   | some (.p b 0 j)=>(match H[b]? with
    | some (.box l)=>l[j]?
    | some (.boxt _ l)=>l[j]?
    | _=>none)
   | some (.q _ _ _ row j)=>(match row[j]? with
    | some u=>some (.c u)
    | none=>none)
   | _=>none)
  | _=>none)
 | .fieldAddr t x f=>(match bF.get t with
  | some l=>(match l[f]? with
   | some off=>fldC off (ev F x)
   | none=>none)
  | none=>none)
 | .nilCheck x=>(match ev F x with
  | some (.p b k j)=>some (.p b k j)
  | some (.q v k sz row j)=>some (.q v k sz row j)
  | some (.c (.p v row))=>some (.c (.p v row))
  | some (.c (.s (.pointer (some ad))))=>some (.c (.s (.pointer (some ad))))
  | _=>none)
 | .unOp .not _ x=>(match ev F x with
  | some (.c (.s (.bool b)))=>some (.c (.s (.bool (!b))))
  | _=>none)
 | .call ⟨.builtin .len,⟨[x]⟩,⟨[t]⟩⟩=>(match bE.get t with
  | some _=>(match lenC (ev F x) with
   | some n=>some (.c (.s (.int .i64 n)))
   | none=>none)
  | none=>none)
 | .call ⟨.builtin .cap,⟨[x]⟩,⟨[t]⟩⟩=>(match bE.get t with
  | some _=>(match ev F x with
   | some (.o _ _ _ c)=>some (.c (.s (.int .i64 c)))
   | _=>none)
  | none=>none)
 | _=>none
end
end
section
open Go Go.RowKit
abbrev bst (l:List UInt8):ByteArray:=⟨l.toArray⟩
abbrev T (l:List UInt8):CV:=.s (.string (bst l))
theorem zi1 (l:List UInt8):(bst l).size=l.length:=by simp[ByteArray.size]
theorem bst_get {l:List UInt8} {i:Nat}:(bst l)[i]?=l[i]?:=by
 rcases Nat.lt_or_ge i l.length with h|h
 ·rw[List.getElem?_eq_getElem h,getElem?_pos (bst l) i (by rw[zi1];exact h)]
  rfl
 ·rw[List.getElem?_eq_none h,getElem?_neg (bst l) i (by rw[zi1];omega)]
theorem bst_app (a b:List UInt8):bst a++bst b=bst (a++b):=by
 apply ByteArray.ext
 simp[ByteArray.data_append]
theorem zZ1 (l:List UInt8):(bst l).toList=l:=by
 rw[ByteArray.toList_eq]
theorem bst_ext (l:List UInt8) (a b:Nat):(bst l).extract a b=bst ((l.take b).drop a):=by
 apply ByteArray.ext
 rw[ByteArray.data_extract]
 simp[List.extract_eq_take_drop,List.drop_take]
section
variable {P:Program} {N:Nat} {E:Env} {F:Fm} {H:List OB} {o:Oper} {t yt:TypeId} {x y:Operand}
theorem zK8 {t:TypeId} {d:TypeDesc} {w:World} (h:P.underlying t=some d):(underlying t).run P w = .ok d w:=by unfold underlying;simp[h]
theorem zg4 {ix:Operand} {l:List UInt8} {i:Nat} {kd:IntKind} {z:Int} {b:UInt8} (ho:o.op = .index t x ix) (ht:P.underlying t=some .string) (hx:ev F x=some (.c (T l))) (hix:ev F ix=some (.c (.s (.int kd z)))) (hz:z=i) (hb:l[i]?=some b):Rd P N E o F H (.c (.s (.int .u8 b.toNat))):=fun S ρ a w hR=>by
 have h1:=(hR.ev hx).1
 have h2:=(hR.ev hix).1
 simp only[AV.den,CV.den] at h1 h2
 subst hz
 refine⟨?_,.c (.s _)⟩
 have hi:=(List.getElem?_eq_some_iff.1 hb).1
 have:(bst l)[i]?=some b:=by rw[bst_get];exact hb
 simp[execOp,ho,h1,h2,Instr.index,asIntOf,zK8 ht,this,AV.den,CV.den]
theorem zT7 {op:BinOp} {a b:List UInt8} {r:Value} (ho:o.op = .binOp op t x y yt) (ht:P.underlying t=some .string) (hx:ev F x=some (.c (T a))) (hy:ev F y=some (.c (T b))) (hop:∀w,(Op.stringOp op (bst a) (bst b)).run P w = .ok r w) (hne:op≠.shl∧op≠.shr:=by decide):Rd P N E o F H (.c (.s r)):=
 zj2 ho hx hy (fun _ _=>rfl) (fun _ _=>rfl) fun w=>by
  have hg:(eqGuard op t x y (.string (bst a)) (.string (bst b))).run P w = .ok () w:=by unfold eqGuard;split <;> rfl
  rw[Sem.run_bind,hg]
  simp only[Result.andThen_ok]
  unfold binOp
  have:=hop w
  cases op <;> simp_all
theorem rd_adds {a b:List UInt8} (ho:o.op = .binOp .add t x y yt) (ht:P.underlying t=some .string) (hx:ev F x=some (.c (T a))) (hy:ev F y=some (.c (T b))) (hl:a.length+b.length≤9223372036854775807):Rd P N E o F H (.c (T (a++b))):=
 zT7 ho ht hx hy fun w=>by
  unfold Op.stringOp
  simp only[zi1]
  have:IntKind.i64.max=9223372036854775807:=by decide
  rw[if_neg (by rw[this];omega),bst_app];rfl
theorem zS7 {a b:List UInt8} (ho:o.op = .binOp .eql t x y yt) (ht:P.underlying t=some .string) (hx:ev F x=some (.c (T a))) (hy:ev F y=some (.c (T b))):Rd P N E o F H (.c (.s (.bool (decide (a=b))))):=
 zT7 ho ht hx hy fun w=>by
  unfold Op.stringOp
  simp only[zZ1]
  by_cases h:a=b <;> simp[h]
theorem zN7 {a b:List UInt8} (ho:o.op = .binOp .neq t x y yt) (ht:P.underlying t=some .string) (hx:ev F x=some (.c (T a))) (hy:ev F y=some (.c (T b))):Rd P N E o F H (.c (.s (.bool (decide (a≠b))))):=
 zT7 ho ht hx hy fun w=>by
  unfold Op.stringOp
  simp only[zZ1]
  by_cases h:a=b <;> simp[h]
theorem zF10 {lo hi:Option Operand} {l:List UInt8} {i j:Nat} (ho:o.op = .slice t x lo hi none) (ht:P.underlying t=some .string) (hx:ev F x=some (.c (T l))) (hlo:(lo=none∧i=0)∨∃y kd z,lo=some y∧ev F y=some (.c (.s (.int kd z)))∧z=i) (hhi:(hi=none∧j=l.length)∨∃y kd z,hi=some y∧ev F y=some (.c (.s (.int kd z)))∧z=j) (h1:i≤j) (h2:j≤l.length):Rd P N E o F H (.c (T ((l.take j).drop i))):=fun S ρ a w hR=>by
 have g1:=(hR.ev hx).1
 simp only[AV.den,CV.den] at g1
 refine⟨?_,.c (.s _)⟩
 have hb:=zb2 (P:=P) (w:=w) (n:=l.length) (c:=l.length) (zz1 hR hlo) (zz1 hR hhi) h1 h2 false
 simp[execOp,ho,g1,Instr.sliceAt,Instr.slice,zK8 ht,zi1,hb,bst_ext,AV.den,CV.den]
end
end
section
open Go Go.RowKit
section
variable {P:Program} {N:Nat} {E:Env} {F:Fm} {H:List OB} {o:Oper} {t yt:TypeId} {x y:Operand}
theorem zd7 {op:BinOp} {w:World} {p q:Option Addr}:(eqGuard op t x y (.pointer p) (.pointer q)).run P w = .ok () w:=by unfold eqGuard;split <;> rfl
theorem rd_pne {p:Option Addr} {q:Bool} (hq:p.isSome=q) (ho:o.op = .binOp .neq t x (.const (.pointer none)) yt) (ht:P.underlying t=some (.pointer (P.pointee t))) (hx:ev F x=some (.c (.s (.pointer p)))):Rd P N E o F H (.c (.s (.bool q))):=
 zj2 ho hx rfl (fun _ _=>rfl) (fun _ _=>rfl) fun w=>by
  rw[Sem.run_bind]
  refine Eq.trans (congrArg (fun r=>Result.andThen r _) zd7) ?_
  refine Eq.trans (run_neq_pointer_nil w t p ht) ?_
  subst hq
  cases p <;> rfl
theorem rd_peq {p:Option Addr} {q:Bool} (hq:p.isNone=q) (ho:o.op = .binOp .eql t x (.const (.pointer none)) yt) (ht:P.underlying t=some (.pointer (P.pointee t))) (hx:ev F x=some (.c (.s (.pointer p)))):Rd P N E o F H (.c (.s (.bool q))):=
 zj2 ho hx rfl (fun _ _=>rfl) (fun _ _=>rfl) fun w=>by
  rw[Sem.run_bind]
  refine Eq.trans (congrArg (fun r=>Result.andThen r _) zd7) ?_
  refine Eq.trans (run_eql_pointer_nil w t p ht) ?_
  subst hq
  cases p <;> rfl
end
end
end Go.Proofs.YtophoepbedlhjaaGreatDoor
