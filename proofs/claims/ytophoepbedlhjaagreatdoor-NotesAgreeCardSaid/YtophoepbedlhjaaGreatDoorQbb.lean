/- What right notes are, plain. -/
import Derived.Test.YtophoepbedlhjaaGreatDoorQas
import Derived.Shelf.SlSortCmp.NoneTotal
import Derived.Shelf.SortM.Plain
import Derived.Shelf.SortM.SortNone
import Derived.Test.YtophoepbedlhjaaGreatDoorQar
import Derived.Shelf.Strconv.Itoa3
import Derived.Lib.LaidTab
import Derived.Test.YtophoepbedlhjaaGreatDoorProg
import Derived.Test.YtophoepbedlhjaaGreatDoorQay
set_option linter.unusedSimpArgs false
set_option linter.unusedVariables false
namespace Go.Proofs.YtophoepbedlhjaaGreatDoor
open Go Go.RowKit Go.Shelf Go.Sort
theorem Stp.grown {w w':World} (h:Stp w w' (fun _=>False)):∃q os,w'=Sort.grow (w.drewN q) os:=by
 refine⟨w'.drawn - w.drawn,w'.heap.extract w.heap.size w'.heap.size, ?_⟩
 have hh:w.heap++w'.heap.extract w.heap.size w'.heap.size=w'.heap:=by
  refine Array.ext_getElem? fun k=>?_
  rw[Array.getElem?_append]
  split
  ·rename_i hk;exact(h.block k hk (fun x=>x)).symm
  ·rename_i hk
   rw[Array.getElem?_extract]
   have hs:=h.size
   by_cases h2:k < w'.heap.size
   ·rw[if_pos (by omega)];congr 1;omega
   ·rw[if_neg (by omega),Array.getElem?_eq_none (by omega)]
 have h1:=h.os;have h2:=h.tape;have h3:=h.output;have h4:=h.drawn
 obtain⟨hp,tp,dr,o,out⟩:=w
 obtain⟨hp',tp',dr',o',out'⟩:=w'
 simp only at h1 h2 h3 h4 hh ⊢
 subst h1;subst h2;subst h3
 simp only[Sort.grow,World.drewN]
 rw[hh,show dr+(dr' - dr)=dr' by omega]
section
variable {w:World} {S:Nat→Prop} {ρ:List (Option Nat)} {e:TypeId} {k cap B n:Nat} {rows rows':List (List CV)} {cs:Array Value} {os:Array Obj} {f:Array Value→Array Value}
theorem zb3 {b:Nat} (hb:b < w.heap.size) (hne:b≠B):(Sort.grow (mapBlock (Sort.ahead w n) B f) os).heap[b]?=w.heap[b]?:=by
 simp only[Sort.grow,mapBlock,Sort.ahead]
 rw[Array.getElem?_append_left (by simpa using hb),Array.getElem?_modify,if_neg (fun e=>hne e.symm)]
theorem zR7 (hh:w.heap[B]?=some (.cells cs e (0,0))):(Sort.grow (mapBlock (Sort.ahead w n) B f) os).heap[B]?=some (.cells (f cs) e (0,0)):=by
 have hb:B < w.heap.size:=by
  rcases Nat.lt_or_ge B w.heap.size with h|h
  ·exact h
  ·rw[Array.getElem?_eq_none h] at hh;cases hh
 simp only[Sort.grow,mapBlock,Sort.ahead]
 rw[Array.getElem?_append_left (by simpa using hb),Array.getElem?_modify,if_pos rfl,hh]
 rfl
theorem zg4:w.heap.size≤(Sort.grow (mapBlock (Sort.ahead w n) B f) os).heap.size:=by
 simp[Sort.grow,mapBlock,Sort.ahead]
theorem zs10 {e:TypeId} {k cap:Nat} {rows:List (List CV)} (i k' B:Nat):¬inP [OB.arr e k cap rows] i k' B:=fun⟨o,h,h2⟩=>by
 rw[List.getElem?_singleton] at h
 split at h
 ·injection h with h;subst h;exact zA3 h2
 ·cases h
theorem zM11 (hR:RH w S ρ [.arr e k cap rows]) (hB:atB ρ 0=some B) (hh:w.heap[B]?=some (.cells cs e (0,0))) (hcs:(f cs).size=cap*k) (hmx:cap≤maxLen) (hl:rows'.length≤cap)
    (hrow:∀row∈rows',row.length=k∧∀u∈row,Good w S u∧u.den.oneCell'=true) (hcell:∀(i j:Nat) (row:List CV) (u:CV),rows'[i]?=some row→row[j]?=some u→(f cs)[i*k+j]?=some u.den) :
    RH (Sort.grow (mapBlock (Sort.ahead w n) B f) os) S ρ [.arr e k cap rows']∧Stp w (Sort.grow (mapBlock (Sort.ahead w n) B f) os) (fun b=>(∃i,atB ρ i=some b)∨∃i k',inP [OB.arr e k cap rows] i k' b):=by
 have hS:∀b,S b→S b∧(Sort.grow (mapBlock (Sort.ahead w n) B f) os).heap[b]?=w.heap[b]?:=fun b hb=>⟨hb,zb3 (hR.sS b hb) (fun e=>hR.ap 0 B hB (e▸hb))⟩
 refine⟨⟨hR.len,hR.nd,hR.ap,fun i b hi=>Nat.lt_of_lt_of_le (hR.lt i b hi) zg4,fun b hb=>Nat.lt_of_lt_of_le (hR.sS b hb) zg4,fun i o hi=>?_,PL.none zs10⟩,⟨rfl,rfl,rfl,zg4,fun b hb hn=>zb3 hb (fun e=>hn (.inl ⟨0,e▸hB⟩)), ?_⟩⟩
 ·cases i with
  | succ i=>simp at hi
  | zero=>
   simp only[List.getElem?_cons_zero,Option.some.injEq] at hi
   subst hi
   exact .inr ⟨B,f cs,hB,zR7 hh,hcs,hmx,hl,fun row hr=>⟨(hrow row hr).1,fun u hu=>⟨((hrow row hr).2 u hu).1.mono hS,((hrow row hr).2 u hu).2⟩⟩,hcell⟩
 ·show w.drawn≤w.drawn+n
  exact Nat.le_add_right _ _
end
abbrev SEl (w:World) (S:Nat→Prop) (k:Nat) (p:List CV→Prop):={ x:List CV // x.length=k∧p x∧∀u∈x,Good w S u∧u.den.oneCell'=true }
def SEl.enc {w:World} {S:Nat→Prop} {k:Nat} {p:List CV→Prop} (x:SEl w S k p):List Value:=x.1.map CV.den
theorem zN9 {S:Nat→Prop} {ρ:List (Option Nat)} {w u:World} {e:TypeId} {k cap:Nat} {rows rows':List (List CV)} {pn:Bool} {Q:AV→List OB→Prop} (hR:RH w S ρ [.arr e k cap rows]) (h1:RH u S ρ [.arr e k cap rows']) (h2:Stp w u (fun b=>(∃i,atB ρ i=some b)∨∃i k',inP [OB.arr e k cap rows] i k' b)) (hq:Q (.t []) [.arr e k cap rows']) :
    ∃v H' ρ' S',Ending.returned (.tuple #[]) = .returned (AV.den ρ' H' v)∧Q v H'∧WF u S' ρ' H' v∧RH u S' ρ' H' ∧
        Stp w u (fun B=>(∃i,atB ρ i=some B)∨∃i k',inP [OB.arr e k cap rows] i k' B)∧(∀b,S' b→S b∨(w.heap.size≤b∨∃i k',inP [OB.arr e k cap rows] i k' b))∧(∀i B,atB ρ' i=some B→(w.heap.size≤B∨∃i k',inP [OB.arr e k cap rows] i k' B)∨(i < [OB.arr e k cap rows].length∧atB ρ i=some B)) ∧
        (∀i k' B,inP H' i k' B→w.heap.size≤B∨∃i k',inP [OB.arr e k cap rows] i k' B) ∧
        (∀i,i < [OB.arr e k cap rows].length→i < H'.length∧∀o,[OB.arr e k cap rows][i]?=some o→o.shp≠0→atB ρ' i=atB ρ i∧∃o',H'[i]?=some o'∧o'.shp=o.shp) ∧
        (pn=true→∀i,i < [OB.arr e k cap rows].length→atB ρ' i=atB ρ i∧szAt H' i=szAt [OB.arr e k cap rows] i∧capAt H' i=capAt [OB.arr e k cap rows] i):=by
 refine⟨.t [],[.arr e k cap rows'],ρ,S,rfl,hq,.t (by simp),h1,h2,fun b hb=>.inl hb,fun i B hi=>.inr ⟨by have:=zp4 hi;rw[hR.len] at this;exact this,hi⟩,fun i k' B hi=>absurd hi (zs10 i k' B),fun i hi=>⟨by simpa using hi,fun o ho hs=>?_⟩,fun _ i hi=>?_⟩
 ·cases i with
  | succ i=>simp at hi
  | zero=>simp only[List.getElem?_cons_zero,Option.some.injEq] at ho;subst ho;exact absurd rfl hs
 ·cases i with
  | succ i=>simp at hi
  | zero=>exact⟨rfl,rfl,rfl⟩
theorem zu9 {P:Program} {τ:Ren} (L:SlLaysF0.n6 P τ) {k:Nat} (aE:∀w,(isAgg (τ.t 24)).run P w = .ok true w) (zE:∀w,(Go.sizeOf (τ.t 24)).run P w = .ok k w) (p:List CV→Prop) (cf:List CV→List CV→Int) {g:FuncId} (hg:okFn P g=true)
    (hirr:∀x,p x→¬cf x x < 0) (htr:∀x y z,p x→p y→p z→cf x y < 0→cf y z < 0→cf x z < 0) (hnt:∀x y z,p x→p y→p z→¬cf x y < 0→¬cf y z < 0→¬cf x z < 0)
    (hc:∀x y,p x→p y→ACalls P g [.a (x.map .c),.a (y.map .c)] [] fun u H=>u = .c (.s (.int .i64 (cf x y)))∧H = [])
    (rows:List (List CV)) (hp:∀r∈rows,p r) (hle:rows.length≤1000000000) {e:TypeId} {cap n c:Nat} {pn:Bool} (hn:n=rows.length) :
    ACallsX pn P (τ.f 6) [.o 0 0 n c,.f (.func g) []] [.arr e k cap rows] fun u H=>∃rows',u = .t []∧H = [.arr e k cap rows']∧rows'.Perm rows∧rows'.Pairwise (fun x y=>¬cf y x < 0):=fun S ρ w hR hW=>by
 have hwf:WF w S ρ [.arr e k cap rows] (.o 0 0 n c):=hW _ (by simp)
 have hargs:([AV.o 0 0 n c,AV.f (.func g) []].map (AV.den ρ [.arr e k cap rows])).toArray=#[.slice ((atB ρ 0).map fun B=>⟨B,0,none⟩) n c,.func (.func g) #[] #[]]:=by
  simp[AV.den,AV.denL];rfl
 rw[hargs]
 by_cases hr0:rows = []
 ·subst hr0
  simp only[List.length_nil] at hn
  subst hn
  refine(AnyF.slices_SortFunc_none L _ c _ w).mono ?_
  rintro e' w' ⟨rfl,rfl⟩
  exact zN9 hR hR (Stp.refl _ _) ⟨[],rfl,rfl,List.Perm.refl _,List.Pairwise.nil⟩
 ·rcases hR.blk 0 _ rfl with⟨_,_,h⟩|⟨B,cs,hB,hh,hcs,hmx,hl,hrow,hcell⟩
  ·exact absurd h hr0
  ·rw[hB]
   have hall:∀r∈rows,r.length=k∧p r∧∀u∈r,Good w S u∧u.den.oneCell'=true:=fun r hr=>⟨(hrow r hr).1,hp r hr,(hrow r hr).2⟩
   letI:Inhabited (SEl w S k p):=⟨⟨rows.head hr0,hall _ (List.head_mem hr0)⟩⟩
   let d:Array (SEl w S k p):=(rows.attachWith _ hall).toArray
   have hds:d.size=n:=by simp[d,hn]
   have hdg:∀i (hi:i < rows.length),(d[i]!).1=rows[i]:=fun i hi=>by
    rw[getElem!_pos d i (by rw[hds,hn];exact hi)]
    simp[d]
   have hblt:B < w.heap.size:=hR.lt 0 B hB
   have hS:∀(m:Nat) (os:Array Obj) (dk:Array (SEl w S k p)) (b:Nat),S b→S b∧(sortWorldK (α:=SEl w S k p) SEl.enc k w B 0 m dk os).heap[b]?=w.heap[b]?:=fun m os dk b hb=>⟨hb,zb3 (hR.sS b hb) (fun e=>hR.ap 0 B hB (e▸hb))⟩
   have hlen:∀x:SEl w S k p,x.enc.length=k:=fun x=>by rw[SEl.enc,List.length_map];exact x.2.1
   have hH:HoldsK SEl.enc k w B 0 d:=fun j hj=>by
    rw[size_flatK] at hj
    rw[get_flatK _ _ _ _ hj]
    have hk0:0 < k:=Nat.pos_of_ne_zero fun h=>by subst h;simp at hj
    have hq:j / k < rows.length:=by rw[←hn,←hds];exact Nat.div_lt_of_lt_mul (by rw[Nat.mul_comm];exact hj)
    have hm:j % k < k:=Nat.mod_lt _ hk0
    have hrl:=(hrow _ (List.getElem_mem hq)).1
    have h1:=hcell (j / k) (j % k) _ _ (List.getElem?_eq_getElem hq) (List.getElem?_eq_getElem (by rw[hrl];exact hm))
    rw[show j / k*k+j % k=j by rw[Nat.mul_comm];exact Nat.div_add_mod j k] at h1
    refine⟨?_, ?_⟩
    ·show w.cell? ⟨B,0+j,none⟩=some ((SEl.enc d[j / k]!)[j % k]!)
     rw[Nat.zero_add]
     simp only[World.cell?,hh,h1,Option.isSome_none,Bool.false_eq_true,if_false]
     rw[getElem!_pos _ _ (by rw[hlen];exact hm)]
     simp[SEl.enc,hdg _ hq]
    ·simp[World.frozen?,hh]
   have hcmp:CmpLays P g #[] SEl.enc k (fun x y=>cf x.1 y.1) B 0 d.size w:=fun m os dk _ x y=>by
    have hRW:RH (sortWorldK (α:=SEl w S k p) SEl.enc k w B 0 m dk os) S [] []:=⟨rfl,fun i i' B h=>(by cases h),fun i B h=>(by cases h),fun i B h=>(by cases h),fun b hb=>Nat.lt_of_lt_of_le (hR.sS b hb) zg4,fun i o h=>(by simp at h),PL.none fun _ _ _=>zx1⟩
    have hax:(List.map (AV.den [] []) [AV.a (x.1.map .c),AV.a (y.1.map .c)]).toArray=#[.agg (SEl.enc x).toArray,.agg (SEl.enc y).toArray]++#[]:=by
     simp[AV.den,AV.denL_eq,SEl.enc,Function.comp_def]
    rw[←hax]
    refine(hc x.1 y.1 x.2.2.1 y.2.2.1 S [] _ hRW ?_).mono ?_
    ·intro v hv
     have key:∀z:SEl w S k p,WF (sortWorldK (α:=SEl w S k p) SEl.enc k w B 0 m dk os) S [] [] (.a (z.1.map .c)):=fun z=>.a fun u hu=>by
      obtain⟨q,hq,rfl⟩:=List.mem_map.1 hu
      exact .c ((z.2.2.2 q hq).1.mono (hS m os dk))
     simp only[List.mem_cons,List.not_mem_nil,or_false] at hv
     rcases hv with rfl|rfl
     ·exact key x
     ·exact key y
    ·rintro e' w' ⟨u,H',ρ',S',rfl,⟨rfl,rfl⟩,_,_,hst,_⟩
     exact⟨rfl,Stp.grown ⟨hst.os,hst.tape,hst.output,hst.size,fun b hb _=>hst.block b hb (fun h=>h.elim (fun⟨i,h⟩=>by cases h) (fun⟨_,_,h⟩=>zx1 h)),hst.drawn⟩⟩
   have hO:SWO (ltOf fun x y:SEl w S k p=>cf x.1 y.1):=
    ⟨fun x=>by simpa [ltOf] using hirr x.1 x.2.2.1,fun x y z h1 h2=>by
        simp only[ltOf,decide_eq_true_eq] at h1 h2 ⊢
        exact htr _ _ _ x.2.2.1 y.2.2.1 z.2.2.1 h1 h2,fun x y z h1 h2=>by
        simp only[ltOf,decide_eq_false_iff_not] at h1 h2 ⊢
        exact hnt _ _ _ x.2.2.1 y.2.2.1 z.2.2.1 h1 h2⟩
   have hcap:n≤cap:=by rw[hn];exact hl
   have hcon:=AnyQ.slices_SortFunc L k aE zE SEl.enc hlen (fun x v hv=>by
    obtain⟨u,hu,rfl⟩:=List.mem_map.1 hv
    exact(x.2.2.2 u hu).2) (fun x y=>cf x.1 y.1) hO g #[] B 0 c d w (fun args w=>zU1 hg) hcmp hH hblt (by
     rw[hds];omega)
   rw[hds] at hcon
   refine hcon.mono ?_
   rintro e' w' ⟨rfl,d',q,os,⟨hps,_,hpp⟩,hsrt,rfl⟩
   have hd':d'.size=n:=by rw[hps,hds]
   have hl':(d'.toList.map (fun x:SEl w S k p=>x.1)).length=rows.length:=by simp[hd',hn]
   have hfs:∀F:Array Value,((putCells id 0 F) cs).size=cs.size:=fun F=>by simp[putCells]
   obtain⟨h1,h2⟩:=zM11 (n:=q) (os:=os) (f:=putCells id 0 (flatK SEl.enc k d')) (rows':=d'.toList.map (fun x:SEl w S k p=>x.1)) hR hB hh (by rw[hfs,hcs]) hmx (by rw[hl'];exact hl) (fun row hr=>by
       obtain⟨x,_,rfl⟩:=List.mem_map.1 hr
       exact⟨x.2.1,x.2.2.2⟩) (fun i j row u hi hj=>by
       rw[List.getElem?_map] at hi
       cases hx:d'.toList[i]? with
       | none=>rw[hx] at hi;cases hi
       | some x=>
        rw[hx] at hi
        simp only[Option.map_some,Option.some.injEq] at hi
        subst hi
        have hi2:i < d'.size:=by
         rw[Array.getElem?_toList] at hx
         rcases Nat.lt_or_ge i d'.size with h|h
         ·exact h
         ·rw[Array.getElem?_eq_none h] at hx;cases hx
        have hj2:j < k:=by
         rcases Nat.lt_or_ge j x.1.length with h|h
         ·rw[←x.2.1];exact h
         ·rw[List.getElem?_eq_none h] at hj;cases hj
        have hlt:i*k+j < d'.size*k:=by
         have:=Nat.mul_le_mul_right k (show i+1≤d'.size from hi2);rw[Nat.add_mul,Nat.one_mul] at this;omega
        have hlt2:i*k+j < cs.size:=by
         rw[hcs];exact Nat.lt_of_lt_of_le hlt (Nat.mul_le_mul_right k (by rw[hd'];exact hcap))
        have e1:(i*k+j) / k=i:=(blk_iff k i _ (by omega)).1 ⟨by omega,by omega⟩
        have e2:(i*k+j) % k=j:=by rw[Nat.mod_eq_sub_div_mul,e1];omega
        simp only[putCells,Array.getElem?_mapIdx,Array.getElem?_eq_getElem hlt2,Option.map_some]
        rw[if_pos ⟨Nat.zero_le _,by rw[size_flatK];omega⟩,Nat.sub_zero,get_flatK _ _ _ _ hlt,e1,e2]
        have hxe:d'[i]! = x:=by
         rw[getElem!_pos d' i hi2]
         rw[Array.getElem?_toList,Array.getElem?_eq_getElem hi2] at hx
         injection hx
        rw[hxe]
        have:x.enc[j]?=some u.den:=by rw[SEl.enc,List.getElem?_map,hj];rfl
        rw[getElem!_pos _ _ (by rw[hlen];exact hj2)]
        rw[List.getElem?_eq_getElem (by rw[hlen];exact hj2)] at this
        injection this with this
        simp[this])
   refine zN9 hR h1 h2 ⟨_,rfl,rfl, ?_, ?_⟩
   ·have h3:d'.toList.Perm d.toList:=by
     have a1:d'.extract 0 n=d':=by rw[←hd'];simp
     have a2:d.extract 0 n=d:=by rw[←hds];simp
     rw[a1,a2] at hpp;exact hpp
    have h4:=h3.map (fun x:SEl w S k p=>x.1)
    have h5:d.toList.map (fun x:SEl w S k p=>x.1)=rows:=by
     refine List.ext_getElem (by simp[d]) fun i h1 h2=>?_
     simp[d]
    rwa [h5] at h4
   ·rw[List.pairwise_map,List.pairwise_iff_getElem]
    intro i j hi hj hij
    have hi':i < d'.size:=by simpa using hi
    have hj':j < d'.size:=by simpa using hj
    have:=hsrt i j (Nat.zero_le _) hij (by rw[←hd'];exact hj')
    rw[getElem!_pos d' i hi',getElem!_pos d' j hj'] at this
    simpa [ltOf] using this
end Go.Proofs.YtophoepbedlhjaaGreatDoor
-- NEWM
namespace Go.Proofs.YtophoepbedlhjaaGreatDoor
open Go Go.RowKit Go.Shelf
set_option maxRecDepth 100000
def zw12:Go.Shelf.Ren:=⟨fun|171=>143|243=>227|246=>297|283=>352|284=>353|285=>354|286=>355|129=>216|317=>390|318=>391|319=>392|320=>393|337=>421|338=>422|n=>n,fun|3=>3|9=>9|2=>2|4=>4|171=>420|0=>0|53=>277|37=>138|5=>5|173=>422|212=>447|51=>274|20=>20|213=>448|46=>211|232=>480|233=>481|n=>n,fun|17=>3|18=>6|19=>7|n=>n⟩
theorem itoaL:Go.Proofs.LaysM.n171 Tryz.prog zw12:={
 mixed:=by kernel_rfl
 f129:=Tryz.func216.trans (congrArg some (by kernel_rfl))
 f171:=Tryz.func143.trans (congrArg some (by kernel_rfl))
 f243:=Tryz.func227.trans (congrArg some (by kernel_rfl))
 f246:=Tryz.func297.trans (congrArg some (by kernel_rfl))
 f283:=Tryz.func352.trans (congrArg some (by kernel_rfl))
 f284:=Tryz.func353.trans (congrArg some (by kernel_rfl))
 f285:=Tryz.func354.trans (congrArg some (by kernel_rfl))
 f286:=Tryz.func355.trans (congrArg some (by kernel_rfl))
 f317:=Tryz.func390.trans (congrArg some (by kernel_rfl))
 f318:=Tryz.func391.trans (congrArg some (by kernel_rfl))
 f319:=Tryz.func392.trans (congrArg some (by kernel_rfl))
 f320:=Tryz.func393.trans (congrArg some (by kernel_rfl))
 f337:=Tryz.func421.trans (congrArg some (by kernel_rfl))
 f338:=Tryz.func422.trans (congrArg some (by kernel_rfl))
 t0:=Tryz.underlying0
 a0:=Tryz.isAgg0
 z0:=Tryz.sizeOf0
 v0:=Tryz.zeroValue0
 t2:=Tryz.underlying2
 a2:=Tryz.isAgg2
 z2:=Tryz.sizeOf2
 v2:=Tryz.zeroValue2
 t3:=Tryz.underlying3
 a3:=Tryz.isAgg3
 z3:=Tryz.sizeOf3
 v3:=Tryz.zeroValue3
 t4:=Tryz.underlying4
 a4:=Tryz.isAgg4
 z4:=Tryz.sizeOf4
 v4:=Tryz.zeroValue4
 t5:=Tryz.underlying5
 a5:=Tryz.isAgg5
 z5:=Tryz.sizeOf5
 v5:=Tryz.zeroValue5
 t9:=Tryz.underlying9
 a9:=Tryz.isAgg9
 z9:=Tryz.sizeOf9
 v9:=Tryz.zeroValue9
 t20:=Tryz.underlying20
 a20:=Tryz.isAgg20
 z20:=Tryz.sizeOf20
 v20:=Tryz.zeroValue20
 t37:=Tryz.underlying138
 a37:=Tryz.isAgg138
 z37:=Tryz.sizeOf138
 v37:=Tryz.zeroValue138
 t46:=Tryz.underlying211
 a46:=Tryz.isAgg211
 z46:=Tryz.sizeOf211
 v46:=Tryz.zeroValue211
 t51:=Tryz.underlying274
 a51:=Tryz.isAgg274
 z51:=Tryz.sizeOf274
 v51:=Tryz.zeroValue274
 t53:=Tryz.underlying277
 a53:=Tryz.isAgg277
 z53:=Tryz.sizeOf277
 v53:=Tryz.zeroValue277
 t171:=Tryz.underlying420
 a171:=Tryz.isAgg420
 z171:=Tryz.sizeOf420
 v171:=Tryz.zeroValue420
 t173:=Tryz.underlying422
 a173:=Tryz.isAgg422
 z173:=Tryz.sizeOf422
 v173:=Tryz.zeroValue422
 t212:=Tryz.underlying447
 a212:=Tryz.isAgg447
 z212:=Tryz.sizeOf447
 v212:=Tryz.zeroValue447
 t213:=Tryz.underlying448
 a213:=Tryz.isAgg448
 z213:=Tryz.sizeOf448
 t232:=Tryz.underlying480
 a232:=Tryz.isAgg480
 z232:=Tryz.sizeOf480
 v232:=Tryz.zeroValue480
 t233:=Tryz.underlying481
 a233:=Tryz.isAgg481
 z233:=Tryz.sizeOf481
 v233:=Tryz.zeroValue481
 g17:=by kernel_rfl
 g18:=by kernel_rfl
 g19:=by kernel_rfl
 i0:=by kernel_rfl
 i2:=by kernel_rfl
 i3:=by kernel_rfl
 i4:=by kernel_rfl
 i5:=by kernel_rfl
 i9:=by kernel_rfl
 i20:=by kernel_rfl
 i37:=by kernel_rfl
 i46:=by kernel_rfl
 i51:=by kernel_rfl
 i53:=by kernel_rfl
 i171:=by kernel_rfl
 i173:=by kernel_rfl
 i212:=by kernel_rfl
 i232:=by kernel_rfl
 i233:=by kernel_rfl
 m17:=by kernel_rfl
 m18:=by kernel_rfl
 m19:=by kernel_rfl }
def TabP (w:World):Prop:=Lib.TabIs Tryz.prog w "internal/strconv.uint64pow10" .u64 Lib.pow10Tab
theorem zg15 {w:World} (hx:TabP w):∃g,Tryz.prog.globalNamed "internal/strconv.uint64pow10" = some g∧g < w.heap.size∧∀w':World,w'.heap[g]?=w.heap[g]?→TabP w':=by
 unfold TabP Lib.TabIs World.var? at *
 cases hg:Tryz.prog.globalNamed "internal/strconv.uint64pow10" with
 | none=>rw[hg] at hx;cases hx
 | some g=>
  rw[hg] at hx
  simp only[Option.bind_some] at hx ⊢
  refine⟨g,rfl, ?_,fun w' hw=>by rw[hw];exact hx⟩
  rcases Nat.lt_or_ge g w.heap.size with h2|h2
  ·exact h2
  ·rw[Array.getElem?_eq_none h2] at hx;cases hx
def TabX:XW where
 X w ρ H:=TabP w∧∀g,Tryz.prog.globalNamed "internal/strconv.uint64pow10" = some g→(∀i,atB ρ i≠some g)∧∀i k,¬inP H i k g
 mono:=fun⟨h1,h2⟩ h3 h4=>⟨h1,fun g hg=>⟨fun i hi=>by
  obtain⟨j,hj⟩:=h3 i g hi
  exact(h2 g hg).1 j hj,fun i k hi=>by
  obtain⟨i',k',hj⟩:=h4 i k g hi
  exact(h2 g hg).2 i' k' hj⟩⟩
 step:=fun⟨h1,h2⟩ hs h3 h4=>by
  obtain⟨g,hg,hlt,hw⟩:=zg15 h1
  obtain⟨n1,n2⟩:=h2 g hg
  have hb:=hs.block g hlt fun h=>h.elim (fun⟨i,hi⟩=>n1 i hi) fun⟨i,k,hi⟩=>n2 i k hi
  refine⟨hw _ hb,fun g' hg'=>?_⟩
  rw[hg] at hg'
  obtain rfl:=Option.some.inj hg'
  refine⟨fun i hi=>?_,fun i k hi=>?_⟩
  ·rcases h3 i g hi with(h|⟨i',k',h⟩)|⟨j,h⟩
   ·omega
   ·exact n2 i' k' h
   ·exact n1 j h
  ·rcases h4 i k g hi with h|⟨i',k',h⟩
   ·omega
   ·exact n2 i' k' h
theorem zN6:True:=trivial
theorem zf15 {w:World} (h:TabP w):TabX.X w [] []:=⟨h,fun g _=>⟨fun i hi=>(by cases hi),fun i k hi=>zx1 hi⟩⟩
theorem zD8 {P:Program} {X:XW} {f:FuncId} {args:List AV} {u:CV} (hu:∃v,u = .s v) (h:∀ρ w,X.X w ρ []→Calls P f (args.map (AV.den ρ [])).toArray w fun e w'=>e = .returned u.den∧∃k os,w'=Sort.grow (w.drewN k) os):ACallsW X false P f args [] fun u' H=>u' = .c u∧H = []:=fun S ρ w hx hR hW=>by
 refine(h ρ w hx).mono ?_
 rintro e w' ⟨rfl,k,os,rfl⟩
 have hsz:w.heap.size≤(Sort.grow (w.drewN k) os).heap.size:=by simp[Sort.grow,World.drewN]
 obtain⟨v,rfl⟩:=hu
 refine⟨.c (.s v),[],ρ,S,rfl,⟨rfl,rfl⟩,.c (.s v),⟨hR.len,hR.nd,hR.ap,fun i B h=>Nat.lt_of_lt_of_le (hR.lt i B h) hsz,fun b hb=>Nat.lt_of_lt_of_le (hR.sS b hb) hsz,fun i o h=>by simp at h,PL.none fun _ _ _=>zx1⟩,⟨rfl,rfl,rfl,hsz,fun b hb _=>?_, ?_⟩,fun b hb=>.inl hb,fun i B hi=>?_,fun i k' B hi=>absurd hi zx1,fun i hi=>by simp at hi,fun h=>by cases h⟩
 ·simp only[Sort.grow,World.drewN]
  rw[Array.getElem?_append_left hb]
 ·show w.drawn≤w.drawn+k
  exact Nat.le_add_right _ _
 ·have hr0:ρ = []:=List.eq_nil_of_length_eq_zero hR.len
  subst hr0
  cases hi
theorem zn10 (n:Int) (h0:-9223372036854775808≤n) (h1:n≤9223372036854775807):ACallsW TabX false Tryz.prog 143 [.c (I n)] [] fun u H=>u = .c (T (Lib.itoa n))∧H = []:=
 zD8 ⟨_,rfl⟩ fun _ w hx=>Any.strconv_Itoa itoaL n h0 h1 w hx.1
end Go.Proofs.YtophoepbedlhjaaGreatDoor
namespace Go.Proofs.YtophoepbedlhjaaGreatDoor
open Go Go.RowKit
theorem zX12:∀(l:List Nt) (p:Option Nt),chkA p l=0↔(∀x∈l,ntF x=0)∧l.Pairwise (fun x y=>cmpNt x y < 0)∧∀z,p=some z→∀x∈l,cmpNt z x < 0
 | [],p=>by rw[zA7];simp
 | x :: l,p=>by
  have ih:=zX12 l (some x)
  rw[zp3]
  by_cases h1:ntF x=0
  ·rw[if_neg (by simpa using h1)]
   by_cases h2:badO p x=true
   ·rw[if_pos h2]
    refine⟨fun h=>(by cases h),fun⟨_,_,h3⟩=>?_⟩
    cases p with
    | none=>cases h2
    | some z=>
     have h4:decide (0≤cmpNt z x)=true:=h2
     have h5:=of_decide_eq_true h4
     have:=h3 z rfl x List.mem_cons_self
     omega
   ·rw[if_neg h2,ih]
    constructor
    ·rintro⟨h3,h4,h5⟩
     have h6:=h5 x rfl
     refine⟨fun y hy=>?_,List.pairwise_cons.2 ⟨h6,h4⟩,fun z hz y hy=>?_⟩
     ·rcases List.mem_cons.1 hy with rfl|hy
      ·exact h1
      ·exact h3 y hy
     ·subst hz
      have h7:cmpNt z x < 0:=by
       have h8:¬decide (0≤cmpNt z x)=true:=h2
       simp at h8
       exact h8
      rcases List.mem_cons.1 hy with rfl|hy
      ·exact h7
      ·exact zO3 h7 (h6 y hy)
    ·rintro⟨h3,h4,h5⟩
     obtain⟨h6,h7⟩:=List.pairwise_cons.1 h4
     exact⟨fun y hy=>h3 y (List.mem_cons_of_mem _ hy),h7,fun z hz y hy=>by injection hz with hz;subst hz;exact h6 y hy⟩
  ·rw[if_pos h1]
   exact⟨fun h=>absurd h h1,fun⟨h3,_⟩=>absurd (h3 x List.mem_cons_self) h1⟩
theorem chkN_pw {l:List Nt}:chkN l=0↔l.length≤2000∧(∀x∈l,ntF x=0)∧l.Pairwise (fun x y=>cmpNt x y < 0)∧(l.map ky).Nodup:=by
 unfold chkN
 by_cases h1:2000 < l.length
 ·rw[if_pos h1];exact⟨fun h=>(by cases h),fun⟨h,_⟩=>by omega⟩
 rw[if_neg h1]
 have h2:=zX12 l none
 by_cases h3:chkA none l=0
 ·rw[if_neg (by simpa using h3)]
  obtain⟨h4,h5,_⟩:=h2.1 h3
  by_cases h6:(l.map ky).Nodup
  ·rw[if_pos h6];exact⟨fun _=>⟨by omega,h4,h5,h6⟩,fun _=>rfl⟩
  ·rw[if_neg h6];exact⟨fun h=>(by cases h),fun⟨_,_,_,h⟩=>absurd h h6⟩
 ·rw[if_pos h3]
  exact⟨fun h=>absurd h h3,fun⟨_,h4,h5,_⟩=>absurd (h2.2 ⟨h4,h5,fun z hz=>(by cases hz)⟩) h3⟩
theorem zz7 {l s:List Nt} (h:chkN l=0) (hs:s.Sublist l):chkN s=0:=by
 obtain⟨h1,h2,h3,h4⟩:=chkN_pw.1 h
 exact chkN_pw.2 ⟨by have:=hs.length_le;omega,fun x hx=>h2 x (hs.subset hx),h3.sublist hs,h4.sublist (hs.map ky)⟩
end Go.Proofs.YtophoepbedlhjaaGreatDoor
