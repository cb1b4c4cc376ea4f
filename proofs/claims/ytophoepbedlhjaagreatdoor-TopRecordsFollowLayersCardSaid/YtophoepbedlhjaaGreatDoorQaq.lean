/- From a walk by value to a given statement: the argument, what is left as it was. -/
import Derived.Test.YtophoepbedlhjaaGreatDoorRows
import Derived.Test.YtophoepbedlhjaaGreatDoorQap
import Derived.ProofKit
import Derived.ReadAgain
import Derived.ChangeSlices
import Derived.ChangeStays
import Derived.JoinedOf
set_option linter.unusedSimpArgs false
set_option linter.unusedVariables false
namespace Go.Proofs.YtophoepbedlhjaaGreatDoor
open Go Go.ChangeShapes Go.WideShapes Go.ChangeAt Go.RowKit
set_option maxRecDepth 100000
theorem Tryz.own:ownKnob Tryz.prog.godebug=none:=by kernel_rfl
theorem Tryz.cells3:Tryz.prog.cellsOf 3=1:=by kernel_rfl
theorem Tryz.kids:Kids Tryz.prog (· < Tryz.prog.types.size):=kids_rows (by kernel_rfl) (by kernel_rfl)
theorem Tryz.full:∀t e,t < Tryz.prog.types.size→Tryz.prog.underlying t=some (.slice e)→0 < Tryz.prog.cellsOf e:=slices_full_of Tryz.prog (by kernel_rfl)
theorem arg_ints {H:Type} {enc:TypeId × Value→H} {W:World} {A:Option Addr} {len cap fuel:Nat} {x:DataW H × List MemPlace} (hf:DataW.trod enc Tryz.prog W 0 (fun _=>true) true fuel 22 (Value.cells (.slice A len cap)).toList=some x) :
    ∃zs,StrOk zs∧Good W (fun b=>b < W.heap.size) (.r (.slice A len cap) (zs.map fun z=>[I z])):=by
 rcases open_ints Tryz.underlying22 Tryz.underlying3 Tryz.cells3 hf with⟨hcs,-⟩|⟨a,len',cap',zs,hcs,-,hl,hm,hz,-,hcell,hwf⟩
 ·simp only[Value.cells,List.cons.injEq,Value.slice.injEq,and_true] at hcs
  obtain⟨rfl,rfl,rfl⟩:=hcs
  exact⟨[],⟨fun _ h=>(List.not_mem_nil h).elim,Nat.zero_le _⟩,.nil _ _⟩
 ·simp only[Value.cells,List.cons.injEq,Value.slice.injEq,and_true] at hcs
  obtain⟨rfl,rfl,rfl⟩:=hcs
  simp only[if_true] at hz
  refine⟨zs.take len,⟨fun z hz'=>?_, ?_⟩, ?_⟩
  ·have:=hwf z (List.mem_of_mem_take hz')
   simpa [Lit.wf,IntKind.min,IntKind.max,IntKind.signed,IntKind.bits,in64] using this
  ·unfold maxLen at hm;simp;omega
  ·rcases Nat.eq_zero_or_pos len with h0|hp
   ·subst h0
    rw[List.take_zero]
    exact .nil _ _
   ·obtain⟨gb,go,gs⟩:=a
    have hgs:gs=none:=by simpa [Addr.add] using World.cell?_spot (hcell 0 (by omega))
    subst hgs
    have hlt:gb < W.heap.size:=by
     have h:=hcell 0 (by omega)
     rw[add_plain] at h
     rcases Nat.lt_or_ge gb W.heap.size with h1|h1
     ·exact h1
     ·simp[World.cell?,h1] at h
    refine .r _ gb go 1 len cap (by simp;omega) hl hlt (fun row hr=>?_) (fun k j row u hk hj=>?_) (fun row hr u hu=>?_)
    ·obtain⟨z,-,rfl⟩:=List.mem_map.1 hr;rfl
    ·rw[List.getElem?_map] at hk
     cases hz':(zs.take len)[k]? with
     | none=>rw[hz'] at hk;cases hk
     | some z=>
      rw[hz'] at hk
      simp only[Option.map_some,Option.some.injEq] at hk
      subst hk
      have hk2:k < len:=by
       have:=(List.getElem?_eq_some_iff.1 hz').1
       simp at this;omega
      have hzk:zs[k]?=some z:=by rw[List.getElem?_take,if_pos hk2] at hz';exact hz'
      have h:=hcell k (by omega)
      rw[add_plain,List.getD,hzk] at h
      match j,hj with
      | 0,hj=>
       simp only[List.getElem?_cons_zero,Option.some.injEq] at hj
       subst hj
       simpa [CV.den] using h
      | j+1,hj=>simp at hj
    ·obtain⟨z,-,rfl⟩:=List.mem_map.1 hr
     simp only[List.mem_singleton] at hu
     subst hu
     exact .s _
theorem rh_none (W:World):RH W (fun b=>b < W.heap.size) [] []:=
 ⟨rfl,fun i _ _ h=>by simp[atB] at h,fun i _ h=>by simp[atB] at h,fun i _ h=>by simp[atB] at h,fun _ h=>h,fun i _ h=>by simp at h,PL.none fun _ _ _=>zo4⟩
theorem zU6 {W W':World} (h:Stp W W' (fun B=>(∃i,atB ([]:List (Option Nat)) i=some B)∨∃i k,inP [] i k B)):∀b,b < W.heap.size→W'.heap[b]?=W.heap[b]?:=fun b hb=>h.block b hb (fun h=>h.elim (fun⟨i,hi⟩=>by simp[atB] at hi) (fun⟨_,_,hi⟩=>zo4 hi))
theorem kept_all {W W':World} {may:MemPlace→Prop} (h:Stp W W' (fun B=>(∃i,atB ([]:List (Option Nat)) i=some B)∨∃i k,inP [] i k B)):W.keptBut W' may:=by
 refine⟨h.os,h.output,fun i hi=>?_⟩
 rw[zU6 h i hi]
 cases W.heap[i]? with
 | none=>rfl
 | some o=>
  cases o with
  | cells c t fr=>exact⟨rfl,rfl,rfl,fun _ _=>rfl⟩
  | map es clock=>exact .inr ⟨rfl,rfl⟩
  | _=>rfl
theorem same_all {W W':World} (h:Stp W W' (fun B=>(∃i,atB ([]:List (Option Nat)) i=some B)∨∃i k,inP [] i k B)) {p:MemPlace} (hp:p.block < W.heap.size):W.sameAt W' p:=by
 have hb:=zU6 h p.block hp
 cases p with
 | cell b off=>
  simp only[World.sameAt]
  exact World.cell?_of_block hb
 | map b=>exact hb
end Go.Proofs.YtophoepbedlhjaaGreatDoor
