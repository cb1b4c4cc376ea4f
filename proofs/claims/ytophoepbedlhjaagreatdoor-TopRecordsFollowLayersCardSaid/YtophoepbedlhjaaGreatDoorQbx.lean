/- The law TopRecordsFollowLayers, walked. -/
import Derived.Test.YtophoepbedlhjaaGreatDoorQbw
import Derived.Test.YtophoepbedlhjaaGreatDoorProg
import Derived.Shelf.SlIter.Sorted
import Derived.Shelf.SortM.Plain
import Derived.Shelf.SortM.SortNone
import Derived.Test.YtophoepbedlhjaaGreatDoorQbg
import Derived.Test.YtophoepbedlhjaaGreatDoorQbh
import Derived.Test.YtophoepbedlhjaaGreatDoorQbn
import Derived.Test.YtophoepbedlhjaaGreatDoorQbc
set_option linter.unusedSimpArgs false
set_option linter.unusedVariables false
namespace Go.Proofs.YtophoepbedlhjaaGreatDoor
open Go Go.RowKit Go.Maps Go.Sort Go.Shelf
set_option maxRecDepth 100000
def zp5:Go.Shelf.Ren:=⟨fun|7=>124|10=>196|n=>n,fun|23=>110|26=>9|3=>9|28=>208|0=>0|27=>207|33=>151|4=>4|n=>n,fun|n=>n⟩
theorem keysSSL:Go.Proofs.SlLaysZ.n7 Tryz.prog zp5:={
 mixed:=by kernel_rfl
 f7:=⟨Tryz.f124.name,by decide,Tryz.func124.trans (congrArg some (by kernel_rfl))⟩
 f10:=⟨Tryz.f196.name,by decide,Tryz.func196.trans (congrArg some (by kernel_rfl))⟩
 t0:=Tryz.underlying0
 a0:=Tryz.isAgg0
 z0:=Tryz.sizeOf0
 v0:=Tryz.zeroValue0
 t4:=Tryz.underlying4
 a4:=Tryz.isAgg4
 z4:=Tryz.sizeOf4
 v4:=Tryz.zeroValue4
 t23:=Tryz.underlying110
 a23:=Tryz.isAgg110
 z23:=Tryz.sizeOf110
 v23:=Tryz.zeroValue110
 t26:=Tryz.underlying9
 a26:=Tryz.isAgg9
 z26:=Tryz.sizeOf9
 v26:=Tryz.zeroValue9
 t27:=Tryz.underlying207
 a27:=Tryz.isAgg207
 z27:=Tryz.sizeOf207
 v27:=Tryz.zeroValue207
 t28:=Tryz.underlying208
 a28:=Tryz.isAgg208
 z28:=Tryz.sizeOf208
 v28:=Tryz.zeroValue208
 t33:=Tryz.underlying151
 a33:=Tryz.isAgg151
 z33:=Tryz.sizeOf151
 v33:=Tryz.zeroValue151 }
def zC4:Go.Shelf.Ren:=⟨fun|6=>123|8=>194|9=>195|11=>286|13=>135|12=>287|23=>215|24=>216|14=>340|15=>341|16=>342|17=>343|18=>344|19=>345|20=>346|21=>347|22=>348|25=>386|26=>293|27=>294|28=>387|29=>388|30=>389|31=>420|n=>n,fun|26=>9|28=>208|24=>61|0=>0|3=>3|37=>211|48=>274|50=>277|4=>4|40=>286|39=>285|45=>166|5=>5|9=>9|51=>360|55=>364|57=>417|58=>418|33=>151|n=>n,fun|n=>n⟩
theorem sortedSL:Go.Proofs.SlLaysZ.n6 Tryz.prog zC4:={
 mixed:=by kernel_rfl
 f6:=⟨Tryz.f123.name,by decide,Tryz.func123.trans (congrArg some (by kernel_rfl))⟩
 f8:=⟨Tryz.f194.name,by decide,Tryz.func194.trans (congrArg some (by kernel_rfl))⟩
 f11:=⟨Tryz.f286.name,by decide,Tryz.func286.trans (congrArg some (by kernel_rfl))⟩
 t0:=Tryz.underlying0
 a0:=Tryz.isAgg0
 z0:=Tryz.sizeOf0
 v0:=Tryz.zeroValue0
 t24:=Tryz.underlying61
 a24:=Tryz.isAgg61
 z24:=Tryz.sizeOf61
 v24:=Tryz.zeroValue61
 t26:=Tryz.underlying9
 a26:=Tryz.isAgg9
 z26:=Tryz.sizeOf9
 v26:=Tryz.zeroValue9
 t28:=Tryz.underlying208
 a28:=Tryz.isAgg208
 z28:=Tryz.sizeOf208
 v28:=Tryz.zeroValue208
 i26:=by kernel_rfl }
def zz9:Go.Shelf.Ren:=⟨fun|6=>195|8=>135|9=>287|19=>215|20=>216|21=>340|22=>341|23=>342|24=>343|25=>344|26=>345|27=>346|28=>347|29=>348|36=>386|31=>293|32=>294|37=>387|38=>388|39=>389|41=>420|n=>n,fun|27=>61|29=>9|3=>3|32=>211|26=>61|0=>0|44=>274|46=>277|4=>4|36=>286|35=>285|41=>166|5=>5|9=>9|53=>360|57=>364|63=>417|64=>418|n=>n,fun|n=>n⟩
theorem sortSL:Go.Proofs.SlLaysM.n6 Tryz.prog zz9:={
 mixed:=by kernel_rfl
 f6:=⟨Tryz.f195.name,by decide,Tryz.func195.trans (congrArg some (by kernel_rfl))⟩
 f8:=Tryz.func135.trans (congrArg some (by kernel_rfl))
 f9:=⟨Tryz.f287.name,by decide,Tryz.func287.trans (congrArg some (by kernel_rfl))⟩
 f19:=Tryz.func215.trans (congrArg some (by kernel_rfl))
 f20:=Tryz.func216.trans (congrArg some (by kernel_rfl))
 f21:=⟨Tryz.f340.name,by decide,Tryz.func340.trans (congrArg some (by kernel_rfl))⟩
 f22:=⟨Tryz.f341.name,by decide,Tryz.func341.trans (congrArg some (by kernel_rfl))⟩
 f23:=⟨Tryz.f342.name,by decide,Tryz.func342.trans (congrArg some (by kernel_rfl))⟩
 f24:=⟨Tryz.f343.name,by decide,Tryz.func343.trans (congrArg some (by kernel_rfl))⟩
 f25:=⟨Tryz.f344.name,by decide,Tryz.func344.trans (congrArg some (by kernel_rfl))⟩
 f26:=⟨Tryz.f345.name,by decide,Tryz.func345.trans (congrArg some (by kernel_rfl))⟩
 f27:=⟨Tryz.f346.name,by decide,Tryz.func346.trans (congrArg some (by kernel_rfl))⟩
 f28:=⟨Tryz.f347.name,by decide,Tryz.func347.trans (congrArg some (by kernel_rfl))⟩
 f29:=⟨Tryz.f348.name,by decide,Tryz.func348.trans (congrArg some (by kernel_rfl))⟩
 f31:=Tryz.func293.trans (congrArg some (by kernel_rfl))
 f32:=Tryz.func294.trans (congrArg some (by kernel_rfl))
 f36:=⟨Tryz.f386.name,by decide,Tryz.func386.trans (congrArg some (by kernel_rfl))⟩
 f37:=⟨Tryz.f387.name,by decide,Tryz.func387.trans (congrArg some (by kernel_rfl))⟩
 f38:=⟨Tryz.f388.name,by decide,Tryz.func388.trans (congrArg some (by kernel_rfl))⟩
 f39:=⟨Tryz.f389.name,by decide,Tryz.func389.trans (congrArg some (by kernel_rfl))⟩
 f41:=⟨Tryz.f420.name,by decide,Tryz.func420.trans (congrArg some (by kernel_rfl))⟩
 t0:=Tryz.underlying0
 a0:=Tryz.isAgg0
 z0:=Tryz.sizeOf0
 v0:=Tryz.zeroValue0
 t3:=Tryz.underlying3
 a3:=Tryz.isAgg3
 z3:=Tryz.sizeOf3
 v3:=Tryz.zeroValue3
 t4:=Tryz.underlying4
 a4:=Tryz.isAgg4
 z4:=Tryz.sizeOf4
 v4:=Tryz.zeroValue4
 t5:=Tryz.underlying5
 a5:=Tryz.isAgg5
 z5:=Tryz.sizeOf5
 v5:=Tryz.zeroValue5
 t9:=Tryz.underlying9
 a9:=Tryz.isAgg9
 z9:=Tryz.sizeOf9
 v9:=Tryz.zeroValue9
 t26:=Tryz.underlying61
 a26:=Tryz.isAgg61
 z26:=Tryz.sizeOf61
 v26:=Tryz.zeroValue61
 t27:=Tryz.underlying61
 a27:=Tryz.isAgg61
 z27:=Tryz.sizeOf61
 v27:=Tryz.zeroValue61
 t29:=Tryz.underlying9
 a29:=Tryz.isAgg9
 z29:=Tryz.sizeOf9
 v29:=Tryz.zeroValue9
 t32:=Tryz.underlying211
 a32:=Tryz.isAgg211
 z32:=Tryz.sizeOf211
 v32:=Tryz.zeroValue211
 t35:=Tryz.underlying285
 a35:=Tryz.isAgg285
 z35:=Tryz.sizeOf285
 v35:=Tryz.zeroValue285
 t36:=Tryz.underlying286
 a36:=Tryz.isAgg286
 z36:=Tryz.sizeOf286
 v36:=Tryz.zeroValue286
 t41:=Tryz.underlying166
 a41:=Tryz.isAgg166
 z41:=Tryz.sizeOf166
 v41:=Tryz.zeroValue166
 t44:=Tryz.underlying274
 a44:=Tryz.isAgg274
 z44:=Tryz.sizeOf274
 v44:=Tryz.zeroValue274
 t46:=Tryz.underlying277
 a46:=Tryz.isAgg277
 z46:=Tryz.sizeOf277
 v46:=Tryz.zeroValue277
 t53:=Tryz.underlying360
 a53:=Tryz.isAgg360
 z53:=Tryz.sizeOf360
 v53:=Tryz.zeroValue360
 t57:=Tryz.underlying364
 a57:=Tryz.isAgg364
 z57:=Tryz.sizeOf364
 v57:=Tryz.zeroValue364
 t63:=Tryz.underlying417
 a63:=Tryz.isAgg417
 z63:=Tryz.sizeOf417
 v63:=Tryz.zeroValue417
 t64:=Tryz.underlying418
 a64:=Tryz.isAgg418
 z64:=Tryz.sizeOf418
 v64:=Tryz.zeroValue418 }
theorem sortsS (m:Nat):AnyZ.SortsIn Tryz.prog zC4 Fence.wide m:=
 ⟨fun blk off cap ss W hH hblk hsz=>callsIn_wide.2 (AnyM.slices_Sort_string sortSL blk off cap ss W hH hblk hsz),
  fun p cap W=>callsIn_wide.2 (AnyM.slices_Sort_string_none sortSL p cap W)⟩
end Go.Proofs.YtophoepbedlhjaaGreatDoor
namespace Go.Proofs.YtophoepbedlhjaaGreatDoor
open Go Go.RowKit Go.Maps Go.Sort Go.Shelf
set_option maxRecDepth 100000
theorem zy9 {R:Value→Option (DataW Unit × List MemPlace)} (B b nn:Nat) (D0:DataW Unit) (w:World) (hB:B < w.heap.size) (hm:w.cell? ⟨B,0,none⟩=some (.map (some b))) (hown:w.ownsMap Tryz.prog 9 R b nn D0) (hmax:Maps.size D0≤maxLen) (hbytes:Maps.size D0*16≤140737488355328) :
    Calls Tryz.prog 123 #[.func (.func 196) #[] #[.pointer (some ⟨B,0,none⟩)]] w fun e w'=>(∃(v:Value) (ss:List (List UInt8)),e = .returned v∧ss.Perm (strKeys D0) ∧
     w'.ownsRow w.heap.size 9 1 v ss.length ((ss.mergeSort (fun x y=>decide (x≤y))).map encStr)∧Below w.heap.size w w')∧w.drawn≤w'.drawn:=by
 have hseq:SeqGives Fence.wide 2 Tryz.prog 196 #[.pointer (some ⟨B,0,none⟩)] encStr (fun ss=>ss.Perm (strKeys D0)) (Maps.size D0) w:=
  AnyZ.keys_gives (ρ:=zp5) { keysSSL with } Fence.wide _ trivial rfl (by omega) B b nn D0 _ hB hm hown
 have cS:=AnyZ.sorted_in sortedSL Fence.wide 5 trivial trivial trivial trivial rfl (by omega) (sortsS _) (enters_of Tryz.func195 (by kernel_rfl) rfl) 196 #[.pointer (some ⟨B,0,none⟩)] trivial (enters_of Tryz.func196 (by kernel_rfl) rfl) _ _ hmax hbytes _ hseq
 refine zn8 (fun e w' ⟨v,ss,h,_⟩=>⟨v,h⟩) ?_
 refine(callsIn_wide.1 cS).mono ?_
 rintro e w' ⟨v,ss,rfl,h1,h2,_,h4⟩
 exact⟨v,ss,rfl,h1,h2,h4⟩
end Go.Proofs.YtophoepbedlhjaaGreatDoor
namespace Go.Proofs.YtophoepbedlhjaaGreatDoor
open Go Go.RowKit Go.Maps Go.Sort Go.Shelf Go.WideElems Go.WideMaps
set_option maxRecDepth 100000
theorem zr5 {H:Type} (x:Lit × DataW H):∀(l:List (Lit × DataW H)),(DataW.insert x l).Perm (x :: l)
 | []=>List.Perm.refl _
 | y :: r=>by
  unfold DataW.insert
  split
  ·exact List.Perm.refl _
  ·exact((zr5 x r).cons y).trans (List.Perm.swap x y r)
theorem zv1 {H:Type}:∀(l:List (Lit × DataW H)),(l.foldr DataW.insert []).Perm l
 | []=>List.Perm.refl _
 | x :: l=>(zr5 x _).trans ((zv1 l).cons x)
def rdN:Value→Option (DataW Unit × List MemPlace):=fun _=>some (.nil,[])
theorem map_own {w:World} {b ck:Nat} {ms:Array MapEntry} {l:List (Nat × List UInt8 × List UInt8)} (hb:w.heap[b]?=some (.map ms ck)) (hms:ms.toList=l.map fun e=>(⟨.string (bst e.2.1),.string (bst e.2.2),e.1⟩:MapEntry)) (hok:MapOk l ck) (hl:l.length≤1000000) (hk:∀e∈l,e.2.1.length≤1000000) :
    ∃D0:DataW Unit,w.ownsMap Tryz.prog 9 rdN b ms.size D0∧Maps.size D0=l.length∧(strKeys D0).Perm (l.map (·.2.1)):=by
 have hrd:∀e∈l,Go.WideElems.rd Tryz.prog 9 rdN ⟨.string (bst e.2.1),.string (bst e.2.2),e.1⟩=some (.string e.2.1,.nil):=fun e he=>by
  have h1:keyOf Tryz.prog 9 (.string (bst e.2.1))=some (.string (bst e.2.1).data.toList):=keyOf_string_mk Tryz.underlying9 (by have:=hk e he;rw[zi1];exact Nat.le_trans this (by decide))
  have h2:=rd_mk (born:=e.1) h1 (show rdN (.string (bst e.2.2))=some (.nil,[]) from rfl)
  rw[h2]
 have hF:Fit Tryz.prog 9 rdN ms ck:=by
  refine⟨?_,⟨fun x hx=>?_, ?_, ?_⟩,fun x hx=>?_⟩
  ·have:=congrArg List.length hms
   rw[List.length_map,Array.length_toList] at this
   rw[this]
   exact Nat.le_trans hl (by decide)
  ·rw[hms] at hx
   obtain⟨e,he,rfl⟩:=List.mem_map.1 hx
   exact hok.hb e he
  ·rw[hms,List.map_map]
   exact hok.nb
  ·rw[hms,List.map_map]
   have h1:l.Pairwise fun a b=>a.2.1≠b.2.1:=List.pairwise_map.1 hok.nk
   refine List.pairwise_map.2 (h1.imp fun {a b} hne e=>hne ?_)
   have e2:Value.string (bst a.2.1)=Value.string (bst b.2.1):=e
   injection e2 with e2
   have:=congrArg (fun q:ByteArray=>q.data.toList) e2
   simpa using this
  ·rw[hms] at hx
   obtain⟨e,he,rfl⟩:=List.mem_map.1 hx
   exact⟨_,hrd e he⟩
 refine⟨_,⟨ms,ck,hb,hF,Nat.le_refl _,rfl⟩, ?_, ?_⟩
 ·rw[Maps.size_eq,(zv1 _).length_eq,List.length_map,hms,List.length_map]
 ·show (((ms.toList.map (Go.WideElems.rg Tryz.prog 9 rdN)).foldr DataW.insert []).map fun p=>strOf p.1).Perm _
  refine((zv1 _).map _).trans ?_
  rw[hms,List.map_map,List.map_map]
  refine List.Perm.of_eq (List.map_congr_left fun e he=>?_)
  show strOf (Go.WideElems.rg Tryz.prog 9 rdN ⟨.string (bst e.2.1),.string (bst e.2.2),e.1⟩).1=e.2.1
  rw[rg_of (hrd e he)]
  rfl
end Go.Proofs.YtophoepbedlhjaaGreatDoor
namespace Go.Proofs.YtophoepbedlhjaaGreatDoor
open Go Go.RowKit Go.Maps Go.Sort Go.Shelf
set_option maxRecDepth 100000
theorem zK3:SortedKeysOk:=fun l ck hok hl hk S ρ w hR hW=>by
 obtain⟨B,ms,hB,hh,hms⟩:=zF4 (b:=0) hR rfl
 obtain⟨B1,t,hB1,hh1,_⟩:=hR.blk 1 _ rfl
 have hbox:w.heap[B1]?=some (.cells #[.map (some B)] t (0,0)):=by
  rw[hh1]
  simp[AV.den,hB]
 have hargs:([AV.f (.func 196) [.p 1 0 0]].map (AV.den ρ [mSS l ck,.box [.mp 0]])).toArray=#[.func (.func 196) #[] #[.pointer (some ⟨B1,0,none⟩)]]:=by
  simp[AV.den,AV.denL,hB1]
  rfl
 obtain⟨D0,hown,hsz,hkp⟩:=map_own hh hms hok hl hk
 rw[hargs]
 refine(zy9 B1 B ms.size D0 w (hR.lt 1 B1 hB1) (by simp[World.cell?,hbox]) hown (by rw[hsz];exact Nat.le_trans hl (by decide)) (by rw[hsz];omega)).mono ?_
 rintro e w' ⟨⟨v,ss,rfl,hp,hrow,hbl⟩,hd⟩
 have hss:(ss.mergeSort fun x y=>decide (x≤y))=srtK l:=mergeSort_of_perm (hp.trans hkp)
 have hlen:ss.length=l.length:=by rw[hp.length_eq,hkp.length_eq,List.length_map]
 rw[hss,hlen] at hrow
 have hkey:∀(m:Option Nat) (c:Nat),(∀g,m=some g→w.heap.size≤g∧g < w'.heap.size)→(∀ρ2 H2,OwnB w' S ρ2 H2 (.arr 9 1 c (kR (srtK l))) m) →
     RH w' S (ρ++[m]) [mSS l ck,.box [.mp 0],.arr 9 1 c (kR (srtK l))]:=fun m c hm ho=>by
  have hl2:ρ.length=2:=hR.len
  have a0:atB (ρ++[m]) 0=some B:=by rw[zr,if_neg (by omega)];exact hB
  have a1:atB (ρ++[m]) 1=some B1:=by rw[zr,if_neg (by omega)];exact hB1
  have a2:atB (ρ++[m]) 2=m:=by rw[zr,if_pos hl2.symm]
  have hold:∀i b,atB (ρ++[m]) i=some b→(m=some b∧i=2)∨(atB ρ i=some b∧b < w.heap.size):=fun i b hi=>by
   rw[zr] at hi
   split at hi
   ·rename_i h;exact .inl ⟨hi,h.trans hl2⟩
   ·exact .inr ⟨hi,hR.lt i b hi⟩
  refine⟨by simp[hl2],fun i i' b h1 h2=>?_,fun i b h1 hS=>?_,fun i b h1=>?_,fun b hb=>Nat.lt_of_lt_of_le (hR.sS b hb) hbl.size,fun i o hi=>?_,PL.none fun i k b ⟨o,h1,h2⟩=>?_⟩
  ·rcases hold i b h1 with⟨g1,g2⟩|⟨g1,g2⟩ <;> rcases hold i' b h2 with⟨q1,q2⟩|⟨q1,q2⟩
   ·omega
   ·have:=(hm b g1).1;omega
   ·have:=(hm b q1).1;omega
   ·exact hR.nd i i' b g1 q1
  ·rcases hold i b h1 with⟨g1,g2⟩|⟨g1,g2⟩
   ·have:=(hm b g1).1;have:=hR.sS b hS;omega
   ·exact hR.ap i b g1 hS
  ·rcases hold i b h1 with⟨g1,g2⟩|⟨g1,g2⟩
   ·exact(hm b g1).2
   ·exact Nat.lt_of_lt_of_le g2 hbl.size
  ·match i,hi with
   | 0,hi=>
    simp only[List.getElem?_cons_zero,Option.some.injEq] at hi
    subst hi
    rw[a0]
    refine⟨B,ms,rfl,by rw[hbl.block B (hR.lt 0 B hB)];exact hh,by rw[hms,List.map_map];rfl,fun e he=>?_⟩
    obtain⟨x,_,rfl⟩:=List.mem_map.1 he
    exact .s _
   | 1,hi=>
    simp only[List.getElem?_cons_succ,List.getElem?_cons_zero,Option.some.injEq] at hi
    subst hi
    rw[a1]
    refine⟨B1,t,rfl,by rw[hbl.block B1 (hR.lt 1 B1 hB1),hbox];simp[AV.den,a0],fun x hx=>?_⟩
    rw[List.mem_singleton] at hx
    subst hx
    exact⟨.mp (by simp) (by rw[a0];rfl),rfl⟩
   | 2,hi=>
    simp only[List.getElem?_cons_succ,List.getElem?_cons_zero,Option.some.injEq] at hi
    subst hi
    rw[a2]
    exact ho _ _
   | i+3,hi=>simp at hi
  ·obtain⟨l2,rfl⟩:=zp1 h2
   match i,h1 with
   | 0,h1=>simp at h1
   | 1,h1=>simp at h1
   | 2,h1=>simp at h1
   | i+3,h1=>simp at h1
 have hl2:ρ.length=2:=hR.len
 have hfin:∀(m:Option Nat) (c:Nat),(∀g,m=some g→w.heap.size≤g∧g < w'.heap.size)→(∀ρ2 H2,OwnB w' S ρ2 H2 (.arr 9 1 c (kR (srtK l))) m)→v = .slice (m.map fun B=>⟨B,0,none⟩) l.length c→l.length≤c→(m=none→l.length=0∧c=0) →
     ∃u H' ρ' S',Ending.returned v = .returned (AV.den ρ' H' u)∧(∃c,l.length≤c∧u = .o 2 0 l.length c∧H' = [mSS l ck,.box [.mp 0],.arr 9 1 c (kR (srtK l))])∧WF w' S' ρ' H' u∧RH w' S' ρ' H' ∧
      Stp w w' (fun B=>(∃i,atB ρ i=some B)∨∃i k,inP [mSS l ck,.box [.mp 0]] i k B)∧(∀b,S' b→S b∨(w.heap.size≤b∨∃i k,inP [mSS l ck,.box [.mp 0]] i k b))∧(∀i B,atB ρ' i=some B→(w.heap.size≤B∨∃i k,inP [mSS l ck,.box [.mp 0]] i k B)∨(i < [mSS l ck,.box [.mp 0]].length∧atB ρ i=some B)) ∧
      (∀i k B,inP H' i k B→w.heap.size≤B∨∃i k,inP [mSS l ck,.box [.mp 0]] i k B) ∧
      (∀i,i < [mSS l ck,OB.box [.mp 0]].length→i < H'.length∧∀o,[mSS l ck,OB.box [.mp 0]][i]?=some o→o.shp≠0→atB ρ' i=atB ρ i∧∃o',H'[i]?=some o'∧o'.shp=o.shp) ∧
      (true=true→∀i,i < [mSS l ck,OB.box [.mp 0]].length→atB ρ' i=atB ρ i∧szAt H' i=szAt [mSS l ck,.box [.mp 0]] i∧capAt H' i=capAt [mSS l ck,.box [.mp 0]] i):=fun m c hm ho hv hc h3=>by
  have a2:atB (ρ++[m]) 2=m:=by rw[zr,if_pos hl2.symm]
  have hat:∀i,i < 2→atB (ρ++[m]) i=atB ρ i:=fun i hi=>by rw[zr,if_neg (by omega)]
  refine⟨.o 2 0 l.length c,_,ρ++[m],S, ?_,⟨c,hc,rfl,rfl⟩,.o (by simp) hc (by simp[capAt,OB.cap]) (fun h=>h3 (by rw[←a2];exact h)),hkey m c hm ho,⟨hbl.os,hbl.tape,hbl.output,hbl.size,fun b h _=>hbl.block b h,hd⟩,fun b hb=>.inl hb,fun i b hi=>?_,fun i k b hi=>?_,fun i hi=>?_,fun _ i hi=>?_⟩
  ·rw[hv]
   simp[AV.den,a2]
  ·rw[zr] at hi
   split at hi
   ·exact .inl (.inl (hm b hi).1)
   ·exact .inr ⟨by have:=zJ4 hi;rw[hl2] at this;exact this,hi⟩
  ·obtain⟨o,h1,h2⟩:=hi
   obtain⟨l2,rfl⟩:=zp1 h2
   match i,h1 with
   | 0,h1=>simp at h1
   | 1,h1=>simp at h1
   | 2,h1=>simp at h1
   | i+3,h1=>simp at h1
  ·have hi2:i < 2:=hi
   refine⟨by simp;omega,fun o ho2 _=>⟨hat i hi2, ?_⟩⟩
   match i,ho2,hi2 with
   | 0,ho2,_=>exact⟨o,ho2,rfl⟩
   | 1,ho2,_=>exact⟨o,ho2,rfl⟩
  ·have hi2:i < 2:=hi
   match i,hi2 with
   | 0,_=>exact⟨hat 0 (by omega),rfl,rfl⟩
   | 1,_=>exact⟨hat 1 (by omega),rfl,rfl⟩
 rcases hrow.2 with⟨hv,h0⟩|⟨g,cap,cur,hv,hg,hgb,hn,hcap,hcur,htk⟩
 ·have hk0:kR (srtK l) = []:=List.eq_nil_of_length_eq_zero (by rw[List.length_map,zO4];exact h0)
  exact hfin none 0 (fun g h=>by cases h) (fun ρ2 H2=>.inl ⟨rfl,rfl,hk0⟩) (by rw[hv,h0];rfl) (by omega) fun _=>⟨h0,rfl⟩
 ·refine hfin (some g) cap (fun q hq=>?_) (fun ρ2 H2=>.inr ⟨g,cur,rfl,hgb,hcur,hcap,by rw[List.length_map,zO4];exact hn,fun row hr=>?_,fun k j row u hk2 hj=>?_⟩) hv hn (fun h=>by cases h)
  ·cases hq
   exact⟨hg,(Array.getElem?_eq_some_iff.1 hgb).1⟩
  ·obtain⟨s2,_,rfl⟩:=List.mem_map.1 hr
   refine⟨rfl,fun u hu=>?_⟩
   rw[List.mem_singleton] at hu
   subst hu
   exact⟨.s _,rfl⟩
  ·rw[List.getElem?_map] at hk2
   cases hs2:(srtK l)[k]? with
   | none=>rw[hs2] at hk2;cases hk2
   | some s2=>
    rw[hs2] at hk2
    simp only[Option.map_some,Option.some.injEq] at hk2
    subst hk2
    match j,hj with
    | 0,hj=>
     simp only[List.getElem?_cons_zero,Option.some.injEq] at hj
     subst hj
     have h1:(cur.toList.take (l.length*1))[k]?=some (encStr s2):=by rw[htk,List.getElem?_map,hs2];rfl
     rw[List.getElem?_take] at h1
     split at h1
     ·rw[Nat.mul_one,Nat.add_zero,←Array.getElem?_toList];exact h1
     ·cases h1
    | j+1,hj=>simp at hj
end Go.Proofs.YtophoepbedlhjaaGreatDoor
-- NEWM
namespace Go.Proofs.YtophoepbedlhjaaGreatDoor
open Go Go.RowKit
set_option maxRecDepth 1000000
theorem rd_eqfr {N:Nat} {E:Env} {o:Oper} {F:Fm} {H:List OB} {x y:Operand} {yt:TypeId} {a0 a1 b0 b1:Int} (h:a0=b0∧a1=b1) (ho:o.op = .binOp .eql 43 x y yt) (hx:ev F x=some (.a [.c (.s (.int .i64 a0)),.c (.s (.int .i64 a1))])) (hy:ev F y=some (.a [.c (.s (.int .i64 b0)),.c (.s (.int .i64 b1))])):Rd Tryz.prog N E o F H (.c (.s (.bool true))):=by
 have:=zi5 (N:=N) (E:=E) (F:=F) (H:=H) ho hx hy
 rwa [decide_eq_true h] at this
set_option maxHeartbeats 4000000 in
theorem za8 (v:Value) (zs:List Int) (hs:StrOk zs):ACalls Tryz.prog 3 [.c (.r v (zs.map fun z=>[I z]))] [] fun u H=>u = .c (B true):=by
 refine zb (N:=166) Tryz.func3 rfl rfl (by simp) fun E hE=>?_
 refine WA ?_
 refine WA ?_
 refine WR ?_
 refine zf rfl (efm (c:=fun _=>zy7 _ _ _ hs (by omega) (by omega)) (v:=fun _g=>.cons (.p rfl) .nil)) ?_
 rintro F1 H1 ⟨_,_,_,_,⟨a3,q,w,V,Fs,rfl,hq,ha5,ha6,hV,hFl,-,-⟩,hF,hH⟩
 cases hq
 (refine NST hF hH ?_;clear hF hH;rintro rfl rfl)
 refine WE ?_
 refine ZZ ?_
 refine zc [(0,none),(1,none),(3,none),(2,some [0,3]),(4,some [0]),(5,some []),(6,none),(7,none),(8,none),(9,none),(10,none)] zo (by kernel_rfl) ?_
 refine WP ?_
 refine zY rfl rfl (efm (c:=fun _=>zl6 1 3 _ _ _ hs (by omega) (by omega) (by omega) (by omega) (by omega) (by omega)) (v:=fun _g=>.cons (.p rfl) (.cons (.c rfl) (.cons (.c rfl) .nil)))) ?_
 rintro F1 H1 ⟨_,_,_,_,⟨fr,afr,rfl,hq,hfr3,hfr4,hfr1,hfr2,_⟩,hF,hH⟩
 cases hq
 (refine NST hF hH ?_;clear hF hH;rintro rfl rfl)
 refine⟨zj (by first|exact zF rfl rfl rfl (ZK (KK (t:=29) rfl)) rfl) (zj (by first|exact zF rfl rfl rfl (zd3 rfl rfl) rfl) (zk)), ?_⟩
 refine zY rfl rfl (efm (c:=fun _=>zl6 1 5 _ _ _ hs (by omega) (by omega) (by omega) (by omega) (by omega) (by omega)) (v:=fun _g=>.cons (.p rfl) (.cons (.c rfl) (.cons (.c rfl) .nil)))) ?_
 rintro F1 H1 ⟨_,_,_,_,⟨sp,asp,rfl,hq,hsp3,hsp4,hsp1,hsp2,_⟩,hF,hH⟩
 cases hq
 (refine NST hF hH ?_;clear hF hH;rintro rfl rfl)
 refine⟨zj (by first|exact zF rfl rfl rfl (ZK (KK (t:=29) rfl)) rfl) (zk), ?_⟩
 refine zY rfl rfl (efk (c:=fun _=>ze11 q w V Fs fr sp (by omega) (by omega))) ?_
 rintro _ _ ⟨_,_,_,⟨qh,rfl,rfl⟩,hF,hH⟩
 (refine NST hF hH ?_;clear hF hH;rintro rfl rfl)
 refine⟨zk, ?_⟩
 refine WQ ?_
 generalize hgtP V Fs fr sp=hp
 obtain⟨hl,he⟩:=hp
 refine zB5 (wkg (K:=fun F H=>F = [(5,.c (.r qh (zR hl))),(6,.c (I he))]∧H = []) [] (fun _=>[(5,.c (.r qh (zR hl))),(6,.c (I he))]) (fun _=>[]) (fun _=>⟨rfl,rfl⟩) (hl:=ZNL hE)) ?_
 rintro F H ⟨rfl,rfl⟩
 generalize zR hl=Z
 clear hs ha5 ha6 hV hFl hfr3 hfr4 hfr1 hfr2 hsp3 hsp4 hsp1 hsp2
 refine ZZ ?_
 obtain⟨b,hb⟩:∃b,decide (he≠0∨Z.length=0∨100 < Z.length)=b:=⟨_,rfl⟩
 refine zc4 (fun F H=>F = [(5,.c (.r qh Z)),(6,.c (I he)),(45,.c (B b))]∧H = []) ?_ ?_ zb6
 ·by_cases h1:he=0
  ·subst h1
   by_cases h2:(Z.length:Int)=0
   ·obtain rfl:b=true:=by rw[←hb];exact decide_eq_true (by omega)
    refine WA ?_
    exact wkg [] (fun _=>[(5,.c (.r qh Z)),(6,.c (I 0)),(45,.c (B true))]) (fun _=>[]) (fun _=>⟨rfl,rfl⟩) (hH:=fun _=>.nil) (hl:=ZNL hE)
   ·by_cases h3:(100:Int) < (Z.length:Int)
    ·obtain rfl:b=true:=by rw[←hb];exact decide_eq_true (by omega)
     refine WA ?_
     exact wkg [] (fun _=>[(5,.c (.r qh Z)),(6,.c (I 0)),(45,.c (B true))]) (fun _=>[]) (fun _=>⟨rfl,rfl⟩) (hH:=fun _=>.nil) (hl:=ZNL hE)
    ·obtain rfl:b=false:=by rw[←hb];exact decide_eq_false (by omega)
     refine WA ?_
     exact wkg [] (fun _=>[(5,.c (.r qh Z)),(6,.c (I 0)),(45,.c (B false))]) (fun _=>[]) (fun _=>⟨rfl,rfl⟩) (hH:=fun _=>.nil) (hl:=ZNL hE)
  ·obtain rfl:b=true:=by rw[←hb];exact decide_eq_true (.inl h1)
   refine WA ?_
   exact wkg [] (fun _=>[(5,.c (.r qh Z)),(6,.c (I he)),(45,.c (B true))]) (fun _=>[]) (fun _=>⟨rfl,rfl⟩) (hH:=fun _=>.nil) (hl:=ZNL hE)
 rintro F H ⟨rfl,rfl⟩
 refine ZZ ?_
 cases b with
 | true=>
  refine zd rfl ?_
  refine ZR ?_
  refine zf rfl (efk (c:=fun _=>h10_a)) ?_
  rintro _ _ ⟨_,_,_,⟨rfl,rfl⟩,hF,hH⟩
  (refine NST hF hH ?_;clear hF hH;rintro rfl rfl)
  refine WE ?_
  exact arz (q:=rfl)
 | false=>
 refine za rfl ?_
 have hb2:=of_decide_eq_false hb
 obtain⟨rfl,h0,hK⟩:he=0∧0 < Z.length∧Z.length < 101:=by omega
 clear hb hb2
 refine WA ?_
 refine WA ?_
 refine zm (fun m F H=>∃(i c:Nat) (L:List Nt),m+i=Z.length∧L=tB Z.length :: (List.range i).map tL∧L.length≤c∧F = [(5,.c (.r qh Z)),(7,.o 0 0 L.length c),(52,.c (I Z.length)),(53,.c (I i))]∧H = [.arr 37 10 c (noRs L)]) ?_ ?_
 ·refine wkg [some 0] (fun _=>[(5,.c (.r qh Z)),(7,.o 0 0 1 1),(52,.c (I Z.length)),(53,.c (I (0:Nat)))]) (fun _=>[.arr 37 10 1 [[T [97],I 1,I 0,I 1,T [112],T [106],T [],I Z.length,T [],I 0]]]) (fun _=>?_) (hl:=ZNL hE)
  exact⟨Z.length,0,1,[tB Z.length],by omega,rfl,Nat.le_refl _,rfl,rfl⟩
 rintro m F H ⟨i,c,L,hm,hL,hc,rfl,rfl⟩
 have hLl:L.length=i+1:=by rw[hL];simp
 have e1:(noRs L).length=L.length:=by simp
 refine WA ?_
 refine zl rfl (fun hlt=>?_) (fun hge=>?_)
 ·refine WA ?_
  refine WR ?_
  refine zf rfl (Zapp (news:=[[T [97],I ((i:Int)+2),I (10*((i:Int)+1)),I 2,T [112],T [],T [],I ((i:Int)+1),T [],I 0]]) (j:=1) (hE:=KA (t:=38) rfl) (hsrc:=.own rfl rfl rfl) (hj:=rfl) (hle:=by omega)) ?_
  rintro _ _ ⟨_,cc,hcc,rfl,rfl⟩
  refine WE ?_
  refine WA ?_
  refine wkg [some 0] (fun _=>[(5,.c (.r qh Z)),(7,.o 0 0 (L.length+1) cc),(52,.c (I Z.length)),(53,.c (I (i+1:Nat)))]) (fun _=>[.arr 37 10 cc (noRs L++[[T [97],I ((i:Int)+2),I (10*((i:Int)+1)),I 2,T [112],T [],T [],I ((i:Int)+1),T [],I 0]])]) (fun _=>?_) (hl:=ZNL hE)
  exact⟨m - 1,by omega,i+1,cc,L++[tL i],by omega,by rw[hL,List.range_succ,List.map_append];rfl,by simp;omega,by simp,by simp[noR,tL]⟩
 obtain rfl:i=Z.length:=by omega
 obtain⟨N,hN⟩:∃N,N=tN Z.length Z.length:=⟨_,rfl⟩
 have hR:noRs L++[[T [97],I ((L.length:Int)+1),I (10*(Z.length:Int)+5),I 3,T [112],T [],T [],I 0,T [],I 0]]=noRs N:=by
  have e:((L.length:Int)+1)=(Z.length:Int)+2:=by omega
  rw[e,hN,hL]
  simp[tN,noR,tE]
 have hNl:N.length=Z.length+2:=by rw[hN];exact zZ4 _ _
 refine WR ?_
 refine zf rfl (Zapp (news:=[[T [97],I ((L.length:Int)+1),I (10*(Z.length:Int)+5),I 3,T [112],T [],T [],I 0,T [],I 0]]) (j:=1) (hE:=KA (t:=38) rfl) (hsrc:=.own rfl rfl rfl) (hj:=rfl) (hle:=by omega)) ?_
 rintro _ _ ⟨_,cc,hcc,rfl,rfl⟩
 refine WE ?_
 rw[hR]
 refine zB5 (wkg (K:=fun F H=>∃vn,F = [(5,.c (.r qh Z)),(7,.c (.r vn (noRs N)))]∧H = []) [] (fun g=>[(5,.c (.r qh Z)),(7,.c (.r (g (.o 0 0 (L.length+1) cc)) (noRs N)))]) (fun _=>[]) (fun _=>⟨_,rfl,rfl⟩) (hF:=fun _=>.cons rfl (.c rfl) (.cons rfl (.frz rfl rfl (by rw[List.drop_zero,List.take_of_length_le (by simp;omega)]) (by simp;omega) rfl) .nil)) (hl:=ZNL hE)) ?_
 rintro F H ⟨vn,rfl,rfl⟩
 clear hR hL hLl e1 hm hc hcc hge
 have hNs:∀x∈N,NtS x:=by rw[hN];exact tN_ok _ _
 have a1:=(zI8 hK h0 (n:=10*(Z.length:Int)+5) (by omega) (by omega)).1
 have a2:=(zI8 hK h0 (n:=10*(Z.length:Int)+4) (by omega) (by omega)).1
 have s1:=tk_st ((zo10 _ hK).resolve_left (by omega))
 have s2:=tk_st ((tk_runs _ hK).resolve_left (by omega))
 obtain⟨p1,p2⟩:=tk_pace hK h0
 rw[←hN] at a1 a2 s1 s2 p1 p2
 rw[show stW 1 = [100,111,110,101] by decide] at s1
 rw[show stW 0 = [114,117,110,115] by decide] at s2
 have j1:=zb11 zK3 vn N (10*(Z.length:Int)+5) (by omega) hNs
 have j2:=zb11 zK3 vn N (10*(Z.length:Int)+4) (by omega) hNs
 have j3:=pace_v vn N 100000 (by omega) hNs [106] (by simp)
 rw[a1,s1] at j1
 rw[a2,s2] at j2
 rw[p1,p2] at j3
 obtain⟨M,hM⟩:∃M,M=tN Z.length (Z.length - 1):=⟨_,rfl⟩
 have hMs:∀x∈M,NtS x:=by rw[hM];exact tN_ok _ _
 have hMl:M.length=Z.length+1:=by rw[hM,zZ4];omega
 have hME:N.take Z.length++[tE Z.length]=M:=by rw[hN,hM];exact early_eq h0
 have a4:=(zI8 hK h0 (n:=100000) (by omega) (by omega)).2
 have href:=(tk_ref _ hK).resolve_left (by omega)
 rw[←hM] at a4 href
 have j4:=fun vm=>zA10 vm M 100000 (by omega) hMs
 rw[a4] at j4
 have eN:(noRs N).length=Z.length+2:=by simp[hNl]
 have hrowN:∀row∈noRs N,row.length=10:=fun r h=>(okNo N r h).1
 have hcat:∀ve:Value,catR [(subV vn 0 Z.length 10,((noRs N).take Z.length).drop 0),(ve,[[T [97],I (N.length:Int),I (10*(Z.length:Int)+5),I 3,T [112],T [],T [],I 0,T [],I 0]])]=noRs M:=fun ve=>by
  rw[hNl,←hME]
  simp[catR,noR,tE]
 have hclen:∀ve:Value,(catR [(subV vn 0 Z.length 10,((noRs N).take Z.length).drop 0),(ve,[[T [97],I (N.length:Int),I (10*(Z.length:Int)+5),I 3,T [112],T [],T [],I 0,T [],I 0]])]).length≤1000000:=fun ve=>by rw[hcat];simp;omega
 have hokc:∀ve:Value,∀p∈[(subV vn 0 Z.length 10,((noRs N).take Z.length).drop 0),(ve,[[T [97],I (N.length:Int),I (10*(Z.length:Int)+5),I 3,T [112],T [],T [],I 0,T [],I 0]])],OkR 10 p.2:=fun ve p hp=>by
  simp only[List.mem_cons,List.not_mem_nil,or_false] at hp
  rcases hp with rfl|rfl
  ·intro r hr;exact okNo N r (List.mem_of_mem_take (by simpa using hr))
  ·have:=okNo [(⟨[97],(N.length:Int),10*(Z.length:Int)+5,3,[112],[],[],0,[],0⟩:Nt)];exact this
 clear hN hM hME a1 a2 s1 s2 p1 p2 a4 hNs hMs
 refine WR ?_
 refine zf rfl (efk (c:=fun _=>j1)) ?_
 rintro _ _ ⟨_,_,_,⟨ra,ca,hh,-,hca,rfl,rfl⟩,hF,hH⟩
 obtain⟨ma,ka,g1,g2,g3⟩:=(hh.resolve_left fun h=>h.1 rfl).2
 rw[zr10 g1 g2] at g3
 subst g3
 clear hh g1 g2
 (refine NST hF hH ?_;clear hF hH;rintro rfl rfl)
 refine WE ?_
 refine WR ?_
 refine zf rfl (efk (c:=fun _=>j2)) ?_
 rintro _ _ ⟨_,_,_,⟨rb,cb,hh,-,hcb,rfl,rfl⟩,hF,hH⟩
 obtain⟨mb,kb,g1,g2,g3⟩:=(hh.resolve_left fun h=>h.1 rfl).2
 rw[zr10 g1 g2] at g3
 subst g3
 clear hh g1 g2
 (refine NST hF hH ?_;clear hF hH;rintro rfl rfl)
 refine WE ?_
 refine zB5 (wkg (K:=fun F H=>∃v9 vb,F = [(5,.c (.r qh Z)),(7,.c (.r vn (noRs N))),(9,.c (.r v9 (prRs [([106],[100,111,110,101])]))),(10,.c (I 0)),(11,.c (.r vb (prRs [([106],[114,117,110,115])]))),(12,.c (I 0))]∧H = []) [] (fun g=>[(5,.c (.r qh Z)),(7,.c (.r vn (noRs N))),(9,.c (.r (g (.o 0 0 1 ca)) (prRs [([106],[100,111,110,101])]))),(10,.c (I 0)),(11,.c (.r (g (.o 1 0 1 cb)) (prRs [([106],[114,117,110,115])]))),(12,.c (I 0))]) (fun _=>[]) (fun _=>⟨_,_,rfl,rfl⟩) (hF:=fun _=>.cons rfl (.c rfl) (.cons rfl (.c rfl) (.cons rfl (.frz rfl rfl rfl rfl rfl) (.cons rfl (.c rfl) (.cons rfl (.frz rfl rfl rfl rfl rfl) (.cons rfl (.c rfl) .nil)))))) (hl:=ZNL hE)) ?_
 rintro F H ⟨v9,vb,rfl,rfl⟩
 clear j1 j2 hca hcb
 refine WR ?_
 refine zf rfl (efk (c:=fun _=>j3)) ?_
 rintro _ _ ⟨_,_,_,⟨rfl,rfl⟩,hF,hH⟩
 (refine NST hF hH ?_;clear hF hH;rintro rfl rfl)
 refine WE ?_
 refine ZR ?_
 iterate 4 refine WX1 ?_
 refine ZA (Yslr (h:=Z.length)) ?_
 iterate 7 refine WX1 ?_
 refine zf rfl Ybsr ?_
 rintro _ _ ⟨ve,rfl,rfl⟩
 refine WO ?_
 refine zf rfl (zn true (fun g=>zx11 [(subV vn 0 Z.length 10,((noRs N).take Z.length).drop 0),(ve,[[T [97],I (N.length:Int),I (10*(Z.length:Int)+5),I 3,T [112],T [],T [],I 0,T [],I 0]])] (g (.o 1 0 2 2)) (hokc ve) (by simp) (by simp) (hclen ve)) rfl .fn rfl (by decide) (by kernel_rfl) rfl (fun _=>.cons (.frz rfl rfl rfl rfl rfl) .nil) (fun _ _ u Hr ⟨c,_,hu,hH⟩=>by rw[hu,hH];exact⟨.o,fun o ho=>by rw[List.mem_singleton] at ho;subst ho;rw[hcat];exact noFlat _⟩)) ?_
 rintro _ _ ⟨_,_,_,⟨cL,hcL,rfl,rfl⟩,hF,hH⟩
 rw[hcat] at hF hH hcL
 (refine NST hF hH ?_;clear hF hH;rintro rfl rfl)
 refine WE ?_
 refine zB5 (wkg (K:=fun F H=>∃vm,F = [(9,.c (.r v9 (prRs [([106],[100,111,110,101])]))),(10,.c (I 0)),(11,.c (.r vb (prRs [([106],[114,117,110,115])]))),(12,.c (I 0)),(13,.p 0 0 0),(14,.c (B true)),(15,.c (I 0)),(16,.c (.r vm (noRs M)))]∧H = [.box [.c (I 10),.c (I 1)]]) [some 0] (fun g=>[(9,.c (.r v9 (prRs [([106],[100,111,110,101])]))),(10,.c (I 0)),(11,.c (.r vb (prRs [([106],[114,117,110,115])]))),(12,.c (I 0)),(13,.p 0 0 0),(14,.c (B true)),(15,.c (I 0)),(16,.c (.r (g (.o 2 0 (noRs M).length cL)) (noRs M)))]) (fun _=>[.box [.c (I 10),.c (I 1)]]) (fun _=>⟨_,rfl,rfl⟩) (hF:=fun _=>.cons rfl (.c rfl) (.cons rfl (.c rfl) (.cons rfl (.c rfl) (.cons rfl (.c rfl) (.cons rfl (.p rfl) (.cons rfl (.c rfl) (.cons rfl (.c rfl) (.cons rfl (.frz rfl rfl (by rw[List.drop_zero,List.take_of_length_le (Nat.le_refl _)]) rfl rfl) .nil)))))))) (hl:=ZNL hE)) ?_
 rintro F H ⟨vm,rfl,rfl⟩
 refine WR ?_
 refine zf rfl (efk (c:=fun _=>j4 vm)) ?_
 rintro _ _ ⟨_,_,_,⟨R1,R2,c1,c2,hR1,hR2,-,-,hc1,hc2,rfl,rfl⟩,hF,hH⟩
 rw[if_pos rfl] at hR1
 have hR1l:R1.length=1:=by rw[hR1];exact href
 (refine NST hF hH ?_;clear hF hH;rintro rfl rfl)
 refine WE ?_
 have hR1i:(R1.length:Int)=1:=by omega
 refine ZR ?_
 iterate 20 refine WX1 ?_
 first|refine ZP (rd_eqfr ⟨rfl,rfl⟩ rfl rfl rfl) ?_|refine ZS ?_
 refine WO ?_
 first|refine ZS ?_|(refine G1 rfl ?_;refine zf rfl (zn true (fun g=>zh9 v9 (g (.o 3 0 1 1)) [([106],[100,111,110,101])] [([106],[100,111,110,101])] (by simp) (by simp)) rfl .fn rfl (by decide) (by kernel_rfl) rfl (fun _=>.cons (.c rfl) (.cons (.frz rfl rfl rfl rfl rfl) .nil)) (fun _ _ _ _ ⟨hu,hH⟩=>by rw[hu,hH];exact⟨.c (.inl trivial),by simp⟩)) ?_;rintro _ _ ⟨_,_,_,⟨rfl,rfl⟩,hF,hH⟩;rw[decide_eq_true rfl] at hF;(refine NST hF hH ?_;clear hF hH;rintro rfl rfl))|skip
 refine WO ?_
 first|refine ZS ?_|(refine G1 rfl ?_;refine zf rfl (zn true (fun g=>zh9 vb (g (.o 4 0 1 1)) [([106],[114,117,110,115])] [([106],[114,117,110,115])] (by simp) (by simp)) rfl .fn rfl (by decide) (by kernel_rfl) rfl (fun _=>.cons (.c rfl) (.cons (.frz rfl rfl rfl rfl rfl) .nil)) (fun _ _ _ _ ⟨hu,hH⟩=>by rw[hu,hH];exact⟨.c (.inl trivial),by simp⟩)) ?_;rintro _ _ ⟨_,_,_,⟨rfl,rfl⟩,hF,hH⟩;rw[decide_eq_true rfl] at hF;(refine NST hF hH ?_;clear hF hH;rintro rfl rfl))|skip
 refine WO ?_
 first|refine ZS ?_|(refine G1 rfl ?_;refine zf rfl (efk (c:=fun _=>h10_a)) ?_;rintro _ _ ⟨_,_,_,⟨rfl,rfl⟩,hF,hH⟩;(refine NST hF hH ?_;clear hF hH;rintro rfl rfl))|skip
 refine WE ?_
 exact arz (q:=rfl)
end Go.Proofs.YtophoepbedlhjaaGreatDoor
