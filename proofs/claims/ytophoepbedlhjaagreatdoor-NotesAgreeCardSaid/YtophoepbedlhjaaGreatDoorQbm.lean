/- The stream, by value: Some; notes sorted by insertion (slices.SortStableFunc of at most 20 notes). -/
import Derived.Test.YtophoepbedlhjaaGreatDoorQbl
import Derived.Test.YtophoepbedlhjaaGreatDoorQan
import Derived.Test.YtophoepbedlhjaaGreatDoorQay
import Derived.Test.YtophoepbedlhjaaGreatDoorQba
set_option linter.unusedSimpArgs false
set_option linter.unusedVariables false
namespace Go.Proofs.YtophoepbedlhjaaGreatDoor
open Go Go.RowKit Go.Maps Go.Sort Go.Shelf
set_option maxRecDepth 100000
theorem ze2:SortedKeysOk:=fun l ck hok hl hk S ρ w hR hW=>by
 obtain⟨B,ms,hB,hh,hms⟩:=zK4 (b:=0) hR rfl
 obtain⟨B1,t,hB1,hh1,_⟩:=hR.blk 1 _ rfl
 have hbox:w.heap[B1]?=some (.cells #[.map (some B)] t (0,0)):=by
  rw[hh1]
  simp[AV.den,hB]
 have hargs:([AV.f (.func 196) [.p 1 0 0]].map (AV.den ρ [mSS l ck,.box [.mp 0]])).toArray=#[.func (.func 196) #[] #[.pointer (some ⟨B1,0,none⟩)]]:=by
  simp[AV.den,AV.denL,hB1]
  rfl
 obtain⟨D0,hown,hsz,hkp⟩:=zN15 hh hms hok hl hk
 rw[hargs]
 refine(zN10 B1 B ms.size D0 w (hR.lt 1 B1 hB1) (by simp[World.cell?,hbox]) hown (by rw[hsz];exact Nat.le_trans hl (by decide)) (by rw[hsz];omega)).mono ?_
 rintro e w' ⟨⟨v,ss,rfl,hp,hrow,hbl⟩,hd⟩
 have hss:(ss.mergeSort fun x y=>decide (x≤y))=srtK l:=mergeSort_of_perm (hp.trans hkp)
 have hlen:ss.length=l.length:=by rw[hp.length_eq,hkp.length_eq,List.length_map]
 rw[hss,hlen] at hrow
 have hkey:∀(m:Option Nat) (c:Nat),(∀g,m=some g→w.heap.size≤g∧g < w'.heap.size)→(∀ρ2 H2,OwnB w' S ρ2 H2 (.arr 9 1 c (kR (srtK l))) m) →
     RH w' S (ρ++[m]) [mSS l ck,.box [.mp 0],.arr 9 1 c (kR (srtK l))]:=fun m c hm ho=>by
  have hl2:ρ.length=2:=hR.len
  have a0:atB (ρ++[m]) 0=some B:=by rw[zt,if_neg (by omega)];exact hB
  have a1:atB (ρ++[m]) 1=some B1:=by rw[zt,if_neg (by omega)];exact hB1
  have a2:atB (ρ++[m]) 2=m:=by rw[zt,if_pos hl2.symm]
  have hold:∀i b,atB (ρ++[m]) i=some b→(m=some b∧i=2)∨(atB ρ i=some b∧b < w.heap.size):=fun i b hi=>by
   rw[zt] at hi
   split at hi
   ·rename_i h;exact .inl ⟨hi,h.trans hl2⟩
   ·exact .inr ⟨hi,hR.lt i b hi⟩
  refine⟨by simp[hl2],fun i i' b h1 h2=>?_,fun i b h1 hS=>?_,fun i b h1=>?_,fun b hb=>Nat.lt_of_lt_of_le (hR.sS b hb) hbl.size,fun i o hi=>?_,PL.none fun i k b ⟨o,h1,h2⟩=>?_⟩
  ·rcases hold i b h1 with⟨g1,g2⟩|⟨g1,g2⟩ <;> rcases hold i' b h2 with⟨q1,q2⟩|⟨q1,q2⟩
   ·omega
   ·have:=(hm b g1).1;omega
   ·have:=(hm b q1).1;omega
   ·exact hR.nd i i' b g1 q1
  ·rcases hold i b h1 with⟨g1,g2⟩|⟨g1,g2⟩
   ·have:=(hm b g1).1;have:=hR.sS b hS;omega
   ·exact hR.ap i b g1 hS
  ·rcases hold i b h1 with⟨g1,g2⟩|⟨g1,g2⟩
   ·exact(hm b g1).2
   ·exact Nat.lt_of_lt_of_le g2 hbl.size
  ·match i,hi with
   | 0,hi=>
    simp only[List.getElem?_cons_zero,Option.some.injEq] at hi
    subst hi
    rw[a0]
    refine⟨B,ms,rfl,by rw[hbl.block B (hR.lt 0 B hB)];exact hh,by rw[hms,List.map_map];rfl,fun e he=>?_⟩
    obtain⟨x,_,rfl⟩:=List.mem_map.1 he
    exact .s _
   | 1,hi=>
    simp only[List.getElem?_cons_succ,List.getElem?_cons_zero,Option.some.injEq] at hi
    subst hi
    rw[a1]
    refine⟨B1,t,rfl,by rw[hbl.block B1 (hR.lt 1 B1 hB1),hbox];simp[AV.den,a0],fun x hx=>?_⟩
    rw[List.mem_singleton] at hx
    subst hx
    exact⟨.mp (by simp) (by rw[a0];rfl),rfl⟩
   | 2,hi=>
    simp only[List.getElem?_cons_succ,List.getElem?_cons_zero,Option.some.injEq] at hi
    subst hi
    rw[a2]
    exact ho _ _
   | i+3,hi=>simp at hi
  ·obtain⟨l2,rfl⟩:=zs1 h2
   match i,h1 with
   | 0,h1=>simp at h1
   | 1,h1=>simp at h1
   | 2,h1=>simp at h1
   | i+3,h1=>simp at h1
 have hl2:ρ.length=2:=hR.len
 have hfin:∀(m:Option Nat) (c:Nat),(∀g,m=some g→w.heap.size≤g∧g < w'.heap.size)→(∀ρ2 H2,OwnB w' S ρ2 H2 (.arr 9 1 c (kR (srtK l))) m)→v = .slice (m.map fun B=>⟨B,0,none⟩) l.length c→l.length≤c→(m=none→l.length=0∧c=0) →
     ∃u H' ρ' S',Ending.returned v = .returned (AV.den ρ' H' u)∧(∃c,l.length≤c∧u = .o 2 0 l.length c∧H' = [mSS l ck,.box [.mp 0],.arr 9 1 c (kR (srtK l))])∧WF w' S' ρ' H' u∧RH w' S' ρ' H' ∧
      Stp w w' (fun B=>(∃i,atB ρ i=some B)∨∃i k,inP [mSS l ck,.box [.mp 0]] i k B)∧(∀b,S' b→S b∨(w.heap.size≤b∨∃i k,inP [mSS l ck,.box [.mp 0]] i k b))∧(∀i B,atB ρ' i=some B→(w.heap.size≤B∨∃i k,inP [mSS l ck,.box [.mp 0]] i k B)∨(i < [mSS l ck,.box [.mp 0]].length∧atB ρ i=some B)) ∧
      (∀i k B,inP H' i k B→w.heap.size≤B∨∃i k,inP [mSS l ck,.box [.mp 0]] i k B) ∧
      (∀i,i < [mSS l ck,OB.box [.mp 0]].length→i < H'.length∧∀o,[mSS l ck,OB.box [.mp 0]][i]?=some o→o.shp≠0→atB ρ' i=atB ρ i∧∃o',H'[i]?=some o'∧o'.shp=o.shp) ∧
      (true=true→∀i,i < [mSS l ck,OB.box [.mp 0]].length→atB ρ' i=atB ρ i∧szAt H' i=szAt [mSS l ck,.box [.mp 0]] i∧capAt H' i=capAt [mSS l ck,.box [.mp 0]] i):=fun m c hm ho hv hc h3=>by
  have a2:atB (ρ++[m]) 2=m:=by rw[zt,if_pos hl2.symm]
  have hat:∀i,i < 2→atB (ρ++[m]) i=atB ρ i:=fun i hi=>by rw[zt,if_neg (by omega)]
  refine⟨.o 2 0 l.length c,_,ρ++[m],S, ?_,⟨c,hc,rfl,rfl⟩,.o (by simp) hc (by simp[capAt,OB.cap]) (fun h=>h3 (by rw[←a2];exact h)),hkey m c hm ho,⟨hbl.os,hbl.tape,hbl.output,hbl.size,fun b h _=>hbl.block b h,hd⟩,fun b hb=>.inl hb,fun i b hi=>?_,fun i k b hi=>?_,fun i hi=>?_,fun _ i hi=>?_⟩
  ·rw[hv]
   simp[AV.den,a2]
  ·rw[zt] at hi
   split at hi
   ·exact .inl (.inl (hm b hi).1)
   ·exact .inr ⟨by have:=zp4 hi;rw[hl2] at this;exact this,hi⟩
  ·obtain⟨o,h1,h2⟩:=hi
   obtain⟨l2,rfl⟩:=zs1 h2
   match i,h1 with
   | 0,h1=>simp at h1
   | 1,h1=>simp at h1
   | 2,h1=>simp at h1
   | i+3,h1=>simp at h1
  ·have hi2:i < 2:=hi
   refine⟨by simp;omega,fun o ho2 _=>⟨hat i hi2, ?_⟩⟩
   match i,ho2,hi2 with
   | 0,ho2,_=>exact⟨o,ho2,rfl⟩
   | 1,ho2,_=>exact⟨o,ho2,rfl⟩
  ·have hi2:i < 2:=hi
   match i,hi2 with
   | 0,_=>exact⟨hat 0 (by omega),rfl,rfl⟩
   | 1,_=>exact⟨hat 1 (by omega),rfl,rfl⟩
 rcases hrow.2 with⟨hv,h0⟩|⟨g,cap,cur,hv,hg,hgb,hn,hcap,hcur,htk⟩
 ·have hk0:kR (srtK l) = []:=List.eq_nil_of_length_eq_zero (by rw[List.length_map,zf4];exact h0)
  exact hfin none 0 (fun g h=>by cases h) (fun ρ2 H2=>.inl ⟨rfl,rfl,hk0⟩) (by rw[hv,h0];rfl) (by omega) fun _=>⟨h0,rfl⟩
 ·refine hfin (some g) cap (fun q hq=>?_) (fun ρ2 H2=>.inr ⟨g,cur,rfl,hgb,hcur,hcap,by rw[List.length_map,zf4];exact hn,fun row hr=>?_,fun k j row u hk2 hj=>?_⟩) hv hn (fun h=>by cases h)
  ·cases hq
   exact⟨hg,(Array.getElem?_eq_some_iff.1 hgb).1⟩
  ·obtain⟨s2,_,rfl⟩:=List.mem_map.1 hr
   refine⟨rfl,fun u hu=>?_⟩
   rw[List.mem_singleton] at hu
   subst hu
   exact⟨.s _,rfl⟩
  ·rw[List.getElem?_map] at hk2
   cases hs2:(srtK l)[k]? with
   | none=>rw[hs2] at hk2;cases hk2
   | some s2=>
    rw[hs2] at hk2
    simp only[Option.map_some,Option.some.injEq] at hk2
    subst hk2
    match j,hj with
    | 0,hj=>
     simp only[List.getElem?_cons_zero,Option.some.injEq] at hj
     subst hj
     have h1:(cur.toList.take (l.length*1))[k]?=some (encStr s2):=by rw[htk,List.getElem?_map,hs2];rfl
     rw[List.getElem?_take] at h1
     split at h1
     ·rw[Nat.mul_one,Nat.add_zero,←Array.getElem?_toList];exact h1
     ·cases h1
    | j+1,hj=>simp at hj
end Go.Proofs.YtophoepbedlhjaaGreatDoor
namespace Go.Proofs.YtophoepbedlhjaaGreatDoor
open Go Go.RowKit
set_option maxRecDepth 100000
def nextF (zs:List Int) (a n:Int):Int:=if zs.length=0 then belowF ((a+1)*7919) n else belowF (wrap64 (belowF (zs.getD (a % zs.length).toNat 0) 1073741824+wrap64 (a / zs.length*wrap64 (7919+a % zs.length)))) n
theorem zd8 (n:Int) (v:Value) (zs:List Int) (a:Int) (hs:StrOk zs) (h0:0≤a) (h1:a≤1000000000) (hn:in64 n) :
    ACalls Tryz.prog 50 [.p 0 0 0,.c (I n)] [strm v zs a] fun u H=>∃r:Int,u = .c (I r)∧H = [strm v zs (a+1)]∧0≤r∧(1≤n→r < n)∧r=nextF zs a n:=by
 refine zf (N:=64) Tryz.func50 rfl rfl (by simp) fun E hE=>?_
 unfold in64 at hn
 have hl:=hs.len
 by_cases he:zs.length=0
 ·have h00:zs = []:=List.eq_nil_of_length_eq_zero he
  subst h00
  repeat' (first
   | refine ZY ?_
   | refine zo rfl (by assumption) ?_|refine zm rfl (by assumption) ?_|refine zl rfl (fun _=>?_) (fun _=>?_)|refine zj rfl (fun _=>?_) (fun _=>?_)
   | (refine zc (id:=3) ?_
      refine WO ?_
      refine ze rfl (zz false (fun _=>zF4 _ _) rfl .fn rfl (by decide) (by kernel_rfl) rfl (fun _g=>.cons (.c rfl) (.cons (.c rfl) .nil)) (by simp)) ?_
      rintro _ _ ⟨_,_,_,⟨rfl,rfl⟩,rfl,rfl⟩
      refine WE ?_)
   | (refine zd (id:=4) [(0,none),(1,none),(2,none),(3,none),(4,none),(5,none),(6,none),(7,none),(8,none),(9,none),(10,none),(11,none)] zn (by kernel_rfl) ?_
      refine WQ ?_)
   | (refine zd (id:=5) [(0,none),(1,none),(2,none),(3,none),(4,none),(5,none),(6,none),(7,none),(8,none),(9,none),(10,none),(11,none)] zn (by kernel_rfl) ?_
      refine WQ ?_)
   | (refine zc ?_;refine WE ?_))
  all_goals (refine zA1 [some 0] _ rfl rfl rfl (by decide) (ZNK rfl) ZCH ?_)
  all_goals (obtain⟨q1,q2⟩:=zn1 ((a+1)*7919) n hn;exact⟨_,rfl,rfl,q1,q2,rfl⟩)
 ·have hp:0 < zs.length:=by omega
  refine WA ?_
  refine WA ?_
  refine WA ?_
  refine zm rfl (by simpa using he) ?_
  have e1:(zs.map fun z=>[I z]).length=zs.length:=by simp
  have hq:((zs.map fun z=>[I z]).length:Int)=zs.length:=by rw[e1]
  have hmod:0≤a % (zs.length:Int):=Int.emod_nonneg _ (by omega)
  have hmod2:a % (zs.length:Int) < zs.length:=Int.emod_lt_of_pos _ (by omega)
  refine ZZ ?_
  refine zd [(0,none),(1,none),(2,none),(3,none),(4,none),(5,none),(6,none),(7,none),(8,none),(9,none),(10,none),(11,none)] zn (by kernel_rfl) ?_
  refine WQ ?_
  refine ZZ ?_
  refine zd [(0,none),(1,none),(2,none),(3,none),(4,none),(5,none),(6,none),(7,none),(8,none),(9,none),(10,none),(11,none)] zn (by kernel_rfl) ?_
  refine WQ ?_
  obtain⟨i,hi⟩:∃i:Nat,a % (zs.length:Int)=i:=⟨(a % (zs.length:Int)).toNat,by omega⟩
  have hk:i < zs.length:=by omega
  obtain⟨z,hz0⟩:∃z,zs[i]?=some z:=⟨_,List.getElem?_eq_getElem hk⟩
  have hrow:(zs.map fun z=>[I z])[i]?=some [I z]:=by rw[List.getElem?_map,hz0];rfl
  refine ZR ?_
  iterate 5 refine WX1 ?_
  refine ZA (zB2 rfl (KE (t:=22) rfl) rfl rfl (i:=i) (by rw[e1,show a+1 - 1=a from by omega];exact hi) hrow rfl) ?_
  refine WO ?_
  refine ze rfl (zz false (fun _=>zF4 _ _) rfl .fn rfl (by decide) (by kernel_rfl) rfl (fun _g=>.cons (.c rfl) (.cons (.c rfl) .nil)) (by simp)) ?_
  rintro _ _ ⟨_,_,_,⟨rfl,rfl⟩,rfl,rfl⟩
  refine WO ?_
  refine ze rfl (zz false (fun _=>zF4 _ _) rfl .fn rfl (by decide) (by kernel_rfl) rfl (fun _g=>.cons (.c rfl) (.cons (.c rfl) .nil)) (by simp)) ?_
  rintro _ _ ⟨_,_,_,⟨rfl,rfl⟩,rfl,rfl⟩
  refine WE ?_
  all_goals (refine zA1 [some 0] _ rfl rfl rfl (by decide) (ZNK rfl) ZCH ?_)
  all_goals (refine⟨_,rfl,rfl,(zn1 _ n hn).1,(zn1 _ n hn).2, ?_⟩)
  all_goals (have hzd:zs.getD (a % (zs.length:Int)).toNat 0=z:=by rw[hi,Int.toNat_natCast,List.getD,hz0];rfl)
  all_goals (rw[nextF,if_neg he,hzd,e1,show a+1 - 1=a from by omega])
theorem zG12 (n:Int) (v:Value) (zs:List Int) (a:Int) (hs:StrOk zs) (h0:0≤a) (h1:a≤1000000000) (hn:in64 n) :
    ACalls Tryz.prog 59 [.p 0 0 0,.c (I n)] [strm v zs a] fun u H=>∃b:Bool,u = .c (B b)∧H = [strm v zs (a+1)]∧b=decide (nextF zs a n=0):=by
 unfold in64 at hn
 refine zf (N:=9) Tryz.func59 rfl rfl (by simp) fun E hE=>?_
 repeat' (first
  | refine ZY ?_
  | refine zo rfl (by assumption) ?_|refine zm rfl (by assumption) ?_|refine zl rfl (fun _=>?_) (fun _=>?_)|refine zj rfl (fun _=>?_) (fun _=>?_)
  | (refine zc (id:=1) ?_
     refine WO ?_
     refine ze rfl (efm (c:=fun _=>zd8 _ _ _ _ hs (by omega) (by omega) (by simp only[in64];omega))) ?_
     rintro F1 H1 ⟨_,_,_,_,⟨r,rfl,hq,hr1,hr2,hrv⟩,hF,hH⟩
     cases hq
     (refine NST hF hH ?_;clear hF hH;rintro rfl rfl)
     refine WE ?_)
  | (refine zc ?_;refine WE ?_))
 all_goals (refine zA1 [some 0] _ rfl rfl rfl (by decide) (ZNK rfl) ZCH ?_)
 all_goals exact⟨_,rfl,rfl,by rw[←hrv]⟩
def rangeF (zs:List Int) (a lo hi:Int):Int × Int:=if hi < lo then (lo,a) else (lo+nextF zs a (hi - lo+1),a+1)
theorem zW8 (lo hi:Int) (v:Value) (zs:List Int) (a:Int) (hs:StrOk zs) (h0:0≤a) (h1:a≤1000000000) (h2:-4000000000000000000≤lo) (h3:lo≤4000000000000000000) (h4:-4000000000000000000≤hi) (h5:hi≤4000000000000000000) :
    ACalls Tryz.prog 8 [.p 0 0 0,.c (I lo),.c (I hi)] [strm v zs a] fun u H=>∃r a',u = .c (I r)∧H = [strm v zs a']∧a≤a'∧a'≤a+1∧lo≤r∧(lo≤hi→r≤hi)∧(hi < lo→r=lo)∧(r,a')=rangeF zs a lo hi:=by
 refine zf (N:=19) Tryz.func8 rfl rfl (by simp) fun E hE=>?_
 repeat' (first
  | refine ZY ?_
  | refine zo rfl (by assumption) ?_|refine zm rfl (by assumption) ?_|refine zl rfl (fun _=>?_) (fun _=>?_)|refine zj rfl (fun _=>?_) (fun _=>?_)
  | (refine zc (id:=3) ?_
     refine WO ?_
     refine ze rfl (efm (c:=fun _=>zd8 _ _ _ _ hs (by omega) (by omega) (by simp only[in64];omega))) ?_
     rintro F1 H1 ⟨_,_,_,_,⟨r,rfl,hq,hr1,hr2,hrv⟩,hF,hH⟩
     cases hq
     (refine NST hF hH ?_;clear hF hH;rintro rfl rfl)
     refine WE ?_)
  | (refine zc ?_;refine WE ?_))
 all_goals (refine zA1 [some 0] _ rfl rfl rfl (by decide) (ZNK rfl) ZCH ?_)
 all_goals (refine⟨_,_,rfl,rfl,by omega,by omega,by omega,by omega,by omega, ?_⟩)
 all_goals first|(rw[rangeF,if_pos (by omega)];done)|(rw[rangeF,if_neg (by omega),←hrv])
def pickF (zs:List Int) (a:Int) (vals:List Int):Int:=vals.getD (nextF zs a vals.length).toNat 0
theorem zY1 (vals:List Int) (q v:Value) (zs:List Int) (a:Int) (hs:StrOk zs) (h0:0≤a) (h1:a≤1000000000) (hv:vals≠[]) (hl:vals.length≤1000000) :
    ACalls Tryz.prog 19 [.p 0 0 0,.c (.r q (vals.map fun z=>[I z]))] [strm v zs a] fun u H=>∃r,u = .c (I r)∧H = [strm v zs (a+1)]∧r∈vals∧r=pickF zs a vals:=by
 have hp:0 < vals.length:=List.length_pos_iff.2 hv
 have e1:(vals.map fun z=>[I z]).length=vals.length:=by simp
 refine zf (N:=12) Tryz.func19 rfl rfl (by simp) fun E hE=>?_
 refine WA ?_
 refine WR ?_
 refine ze rfl (efm (c:=fun _=>zd8 _ _ _ _ hs (by omega) (by omega) (by simp only[in64];omega))) ?_
 rintro F1 H1 ⟨_,_,_,_,⟨r,rfl,hq,hr1,hr2,hrv⟩,hF,hH⟩
 cases hq
 (refine NST hF hH ?_;clear hF hH;rintro rfl rfl)
 obtain⟨i,rfl⟩:∃i:Nat,r=i:=⟨r.toNat,by omega⟩
 have hk:i < vals.length:=by have:=hr2 (by rw[e1];omega);rw[e1] at this;omega
 obtain⟨z,hz0⟩:∃z,vals[i]?=some z:=⟨_,List.getElem?_eq_getElem hk⟩
 have hrow:(vals.map fun z=>[I z])[i]?=some [I z]:=by rw[List.getElem?_map,hz0];rfl
 refine ZA (zB2 rfl (KE (t:=22) rfl) rfl rfl (i:=i) rfl hrow rfl) ?_
 refine WE ?_
 refine zA1 [some 0] _ rfl rfl rfl (by decide) (ZNK rfl) ZCH ?_
 refine⟨_,rfl,rfl,List.mem_of_getElem? hz0, ?_⟩
 rw[e1] at hrv
 rw[pickF,←hrv,Int.toNat_natCast,List.getD,hz0];rfl
def oddF (zs:List Int) (a lo hi:Int):Int × Int:=if nextF zs a 12=0 then (pickF zs (a+1) [lo - 1,hi+1,lo,hi,-1099511627776,1099511627776],a+1+1) else rangeF zs (a+1) lo hi
theorem zl12 (lo hi:Int) (v:Value) (zs:List Int) (a:Int) (hs:StrOk zs) (h0:0≤a) (h1:a≤900000000) (h2:-4000000000000000000≤lo) (h3:lo≤4000000000000000000) (h4:-4000000000000000000≤hi) (h5:hi≤4000000000000000000) :
    ACalls Tryz.prog 60 [.p 0 0 0,.c (I lo),.c (I hi)] [strm v zs a] fun u H=>∃r a',u = .c (I r)∧H = [strm v zs a']∧a≤a'∧a'≤a+2∧in64 r∧(r,a')=oddF zs a lo hi:=by
 refine zf (N:=22) Tryz.func60 rfl rfl (by simp) fun E hE=>?_
 refine WA ?_
 refine WR ?_
 refine ze rfl (efm (c:=fun _=>zG12 12 _ _ _ hs (by omega) (by omega) (by simp only[in64];omega))) ?_
 rintro F1 H1 ⟨_,_,_,_,⟨bb,rfl,hq,hvbb⟩,hF,hH⟩
 cases hq
 (refine NST hF hH ?_;clear hF hH;rintro rfl rfl)
 refine WE ?_
 refine zj rfl (fun hb=>?_) (fun hb=>?_)
 ·rw[hb] at hvbb
  have hz:=of_decide_eq_true hvbb.symm
  refine WR ?_
  refine ze rfl (zp true (fun _=>zY1 [lo - 1,hi+1,lo,hi,-1099511627776,1099511627776] _ _ _ _ hs (by omega) (by omega) (by simp) (by simp)) rfl .fn rfl (by decide) (by kernel_rfl) rfl rfl (fun _g=>.cons (.p rfl) (.cons (.frz rfl rfl rfl rfl rfl) .nil)) (fun _g=>.cons (.c rfl) (.cons (.c rfl) .nil)) (fun _ _ _ _ ⟨_,hu,hH,_⟩=>by rw[hu,hH];exact⟨.c (.inl trivial),zk (.inr ⟨0,_,rfl,by simp⟩)⟩)) ?_
  rintro F1 H1 ⟨_,_,_,_,⟨rr,rfl,hq,hrmrr,hvrr⟩,hF,hH⟩
  cases hq
  (refine NST hF hH ?_;clear hF hH;rintro rfl rfl)
  refine WE ?_
  exact zA1 [some 0] _ rfl rfl rfl (by decide) (ZNK rfl) ZCH ⟨_,_,rfl,rfl,by omega,by omega,by simp only[List.mem_cons,List.not_mem_nil,or_false] at hrmrr;simp only[in64];omega,by rw[oddF,if_pos hz,←hvrr]⟩
 ·rw[hb] at hvbb
  have hz:=of_decide_eq_false hvbb.symm
  refine WR ?_
  refine ze rfl (efm (c:=fun _=>zW8 lo hi _ _ _ hs (by omega) (by omega) (by omega) (by omega) (by omega) (by omega)) (v:=fun _g=>.cons (.p rfl) (.cons (.c rfl) (.cons (.c rfl) .nil)))) ?_
  rintro F1 H1 ⟨_,_,_,_,⟨rr,ar,rfl,hq,hr3,hr4,hr1,hr2,hr5,hrv⟩,hF,hH⟩
  cases hq
  (refine NST hF hH ?_;clear hF hH;rintro rfl rfl)
  have h64r:in64 rr:=by simp only[in64];omega
  refine WE ?_
  exact zA1 [some 0] _ rfl rfl rfl (by decide) (ZNK rfl) ZCH ⟨_,_,rfl,rfl,by omega,by omega,h64r,by rw[oddF,if_neg hz,←hrv]⟩
end Go.Proofs.YtophoepbedlhjaaGreatDoor
namespace Go.Proofs.YtophoepbedlhjaaGreatDoor
open Go Go.RowKit
def insJ:Nat→List Nt→List Nt
 | 0,l=>l
 | j+1,l=>match l[j+1]?,l[j]? with
  | some x,some y=>if cmpNt x y < 0 then insJ j ((l.set (j+1) y).set j x) else l
  | _,_=>l
def insK:Nat→List Nt→List Nt
 | 0,l=>l
 | k+1,l=>insJ (k+1) (insK k l)
def insF (l:List Nt):List Nt:=insK (l.length - 1) l
theorem zy12 {j:Nat} {l:List Nt} {x y:Nt} (hx:l[j+1]?=some x) (hy:l[j]?=some y):insJ (j+1) l=if cmpNt x y < 0 then insJ j ((l.set (j+1) y).set j x) else l:=by rw[insJ,hx,hy]
theorem zq10:∀(j:Nat) (l:List Nt),(insJ j l).length=l.length
 | 0,l=>rfl
 | j+1,l=>by
  rw[insJ]
  split
  ·split
   ·rw[zq10 j];simp
   ·rfl
  ·rfl
theorem zp10:∀(j:Nat) (l:List Nt) (z:Nt),z∈insJ j l→z∈l
 | 0,l,z,h=>h
 | j+1,l,z,h=>by
  rw[insJ] at h
  split at h
  ·rename_i x y hx hy
   split at h
   ·have h2:=zp10 j _ z h
    rcases List.mem_or_eq_of_mem_set h2 with h3|rfl
    ·rcases List.mem_or_eq_of_mem_set h3 with h4|rfl
     ·exact h4
     ·exact List.mem_of_getElem? hy
    ·exact List.mem_of_getElem? hx
   ·exact h
  ·exact h
theorem zn7:∀(k:Nat) (l:List Nt),(insK k l).length=l.length
 | 0,l=>rfl
 | k+1,l=>by rw[insK,zq10,zn7 k]
theorem zo10:∀(k:Nat) (l:List Nt) (z:Nt),z∈insK k l→z∈l
 | 0,l,z,h=>h
 | k+1,l,z,h=>zo10 k l z (zp10 _ _ _ h)
theorem zo7 (l:List Nt):(insF l).length=l.length:=zn7 _ l
theorem zr10 (l:List Nt) (z:Nt) (h:z∈insF l):z∈l:=zo10 _ l z h
def someF (zs:List Int) (a:Int) (vals:List (List UInt8)):List UInt8:=vals.getD (nextF zs a vals.length).toNat []
def updF (f:List UInt8→Int) (k:List UInt8) (z:Int):List UInt8→Int:=fun s=>if s=k then z else f s
structure NG where
 at_:Int
 no:List UInt8→Int
 ly:List UInt8→Int
 a:Int
def kindF (zs:List Int) (x:Nt) (ly:List UInt8→Int) (a:Int):Nt × (List UInt8→Int) × Int:=
 if x.kd=1 then ({ x with jb:=someF zs a [[106],[107],[108],[109]],n:=pickF zs (a+1) [1,2,2,3] },updF ly x.pr 0,a+1+1)
 else if x.kd=2 then
  if nextF zs a 6=0 then ({ x with n:=(rangeF zs (a+1) 1 4).1 },updF ly x.pr (ly x.pr+1),(rangeF zs (a+1) 1 4).2)
  else ({ x with n:=ly x.pr+1 },updF ly x.pr (ly x.pr+1),a+1)
 else if x.kd=5 then ({ x with sp:=someF zs a [[115],[116]],n:=pickF zs (a+1) [100,50] },ly,a+1+1)
 else if x.kd=6 then ({ x with n:=pickF zs a [10,30,60] },ly,a+1)
 else if x.kd=7 then ({ x with pr:=[],of_:=someF zs a [[97],[98]],ot:=(rangeF zs (a+1) 1 8).1 },ly,(rangeF zs (a+1) 1 8).2)
 else (x,ly,a)
def oddNF (zs:List Int) (x:Nt) (a:Int):Nt × Int:=
 if nextF zs a 90=0 then
  if nextF zs (a+1) 4=0 then ({ x with st:=someF zs (a+1+1) [[],x.st],no:=(oddF zs (a+1+1+1) 1 9).1,at_:=(oddF zs (oddF zs (a+1+1+1) 1 9).2 0 60).1 },(oddF zs (oddF zs (a+1+1+1) 1 9).2 0 60).2)
  else if nextF zs (a+1) 4=1 then ({ x with kd:=(oddF zs (a+1+1) 1 7).1,pr:=someF zs (oddF zs (a+1+1) 1 7).2 [[],[65],x.pr] },(oddF zs (a+1+1) 1 7).2+1)
  else if nextF zs (a+1) 4=2 then ({ x with jb:=someF zs (a+1+1) [[],[106]],sp:=someF zs (a+1+1+1) [[],[115],[66]] },a+1+1+1+1)
  else ({ x with n:=(oddF zs (a+1+1) 0 10).1,ot:=pickF zs (oddF zs (a+1+1) 0 10).2 [0,1,-1] },(oddF zs (a+1+1) 0 10).2+1)
 else (x,a+1)
def firstF (zs:List Int) (g:NG):Nt:=⟨someF zs (g.a+1) [[97],[97],[98]],g.no (someF zs (g.a+1) [[97],[97],[98]])+1,g.at_+pickF zs g.a [0,1,1,3,10],pickF zs (g.a+1+1) [1,2,2,2,2,3,3,4,5,6,6,7],someF zs (g.a+1+1+1) [[112],[112],[113]],[],[],0,[],0⟩
def noteF (zs:List Int) (g:NG):Nt × NG:=
 ((oddNF zs (kindF zs (firstF zs g) g.ly (g.a+1+1+1+1)).1 (kindF zs (firstF zs g) g.ly (g.a+1+1+1+1)).2.2).1,
  ⟨g.at_+pickF zs g.a [0,1,1,3,10],updF g.no (firstF zs g).st (g.no (firstF zs g).st+1),(kindF zs (firstF zs g) g.ly (g.a+1+1+1+1)).2.1,(oddNF zs (kindF zs (firstF zs g) g.ly (g.a+1+1+1+1)).1 (kindF zs (firstF zs g) g.ly (g.a+1+1+1+1)).2.2).2⟩)
def ng0 (a:Int):NG:=⟨0,fun _=>0,fun _=>0,a⟩
def gensF (zs:List Int) (a:Int):Nat→List Nt × NG
 | 0=>([],ng0 a)
 | k+1=>((gensF zs a k).1++[(noteF zs (gensF zs a k).2).1],(noteF zs (gensF zs a k).2).2)
def notesF (zs:List Int) (a:Int) (k:Nat):List Nt:=insF (gensF zs a k).1
theorem zg7 {zs:List Int} {a n:Int} (h1:1≤n) (h2:n≤1000000):0≤nextF zs a n∧nextF zs a n < n:=by
 unfold nextF
 split <;> exact⟨(zn1 _ n (by simp only[in64];omega)).1,(zn1 _ n (by simp only[in64];omega)).2 h1⟩
theorem zp5 {zs:List Int} {a:Int} {vals:List Int} (h:vals≠[]) (hl:vals.length≤1000000):pickF zs a vals∈vals:=by
 have h0:=List.length_pos_iff.2 h
 have h1:=@zg7 zs a vals.length (by omega) (by omega)
 have h2:(nextF zs a vals.length).toNat < vals.length:=by omega
 unfold pickF
 rw[List.getD,List.getElem?_eq_getElem h2]
 exact List.getElem_mem h2
theorem za8 {zs:List Int} {a lo hi:Int} (h:lo≤hi) (h2:hi - lo≤100000):lo≤(rangeF zs a lo hi).1∧(rangeF zs a lo hi).1≤hi:=by
 unfold rangeF
 rw[if_neg (by omega)]
 have:=@zg7 zs a (hi - lo+1) (by omega) (by omega)
 simp only
 omega
theorem zr5 {zs:List Int} {a lo hi:Int} (h:lo≤hi) (h2:-1000≤lo) (h3:hi≤1000):-1100000000000≤(oddF zs a lo hi).1∧(oddF zs a lo hi).1≤1100000000000:=by
 unfold oddF
 split
 ·have:=@zp5 zs (a+1) [lo - 1,hi+1,lo,hi,-1099511627776,1099511627776] (by simp) (by simp)
  simp only[List.mem_cons,List.not_mem_nil,or_false] at this
  simp only
  omega
 ·have:=@za8 zs (a+1) lo hi h (by omega)
  omega
structure NtB (x:Nt):Prop where
 st:x.st.length≤1
 pr:x.pr.length≤1
 jb:x.jb.length≤1
 sp:x.sp.length≤1
 of_:x.of_.length≤1
 no:-2000000000000≤x.no∧x.no≤2000000000000
 at_:-2000000000000≤x.at_∧x.at_≤2000000000000
 kd:-2000000000000≤x.kd∧x.kd≤2000000000000
 n:-2000000000000≤x.n∧x.n≤2000000000000
 ot:-2000000000000≤x.ot∧x.ot≤2000000000000
end Go.Proofs.YtophoepbedlhjaaGreatDoor
-- NEWM
namespace Go.Proofs.YtophoepbedlhjaaGreatDoor
open Go Go.RowKit
set_option maxRecDepth 100000
theorem zh1 (vals:List (List UInt8)) (q v:Value) (zs:List Int) (a:Int) (hs:StrOk zs) (h0:0≤a) (h1:a≤1000000000) (hv:vals≠[]) (hl:vals.length≤1000000) :
    ACalls Tryz.prog 17 [.p 0 0 0,.c (.r q (tR vals))] [strm v zs a] fun u H=>∃r,u = .c (T r)∧H = [strm v zs (a+1)]∧r∈vals∧r=someF zs a vals:=by
 have hp:0 < vals.length:=List.length_pos_iff.2 hv
 have e1:(tR vals).length=vals.length:=by simp
 refine zf (N:=12) Tryz.func17 rfl rfl (by simp) fun E hE=>?_
 refine WA ?_
 refine WR ?_
 refine ze rfl (efm (c:=fun _=>zd8 _ _ _ _ hs (by omega) (by omega) (by simp only[in64];omega))) ?_
 rintro F1 H1 ⟨_,_,_,_,⟨r,rfl,hq,hr1,hr2,hrv⟩,hF,hH⟩
 cases hq
 (refine NST hF hH ?_;clear hF hH;rintro rfl rfl)
 obtain⟨i,rfl⟩:∃i:Nat,r=i:=⟨r.toNat,by omega⟩
 have hk:i < vals.length:=by have:=hr2 (by rw[e1];omega);rw[e1] at this;omega
 obtain⟨z,hz0⟩:∃z,vals[i]?=some z:=⟨_,List.getElem?_eq_getElem hk⟩
 have hrow:(tR vals)[i]?=some [T z]:=by rw[List.getElem?_map,hz0];rfl
 refine ZA (zB2 rfl (KE (t:=61) rfl) rfl rfl (i:=i) rfl hrow rfl) ?_
 refine WE ?_
 refine zA1 [some 0] _ rfl rfl rfl (by decide) (ZNK rfl) ZCH ?_
 refine⟨_,rfl,rfl,List.mem_of_getElem? hz0, ?_⟩
 rw[e1] at hrv
 rw[someF,←hrv,Int.toNat_natCast,List.getD,hz0];rfl
def insB:Nat→List Nt→Bool
 | 0,_=>false
 | j+1,l=>match l[j+1]?,l[j]? with
  | some x,some y=>decide (cmpNt x y < 0)
  | _,_=>false
theorem zk11:∀{j:Nat} {l:List Nt},insB j l=false→insJ j l=l
 | 0,l,_=>rfl
 | j+1,l,h=>by
  rw[insB] at h
  rw[insJ]
  cases hx:l[j+1]? with
  | none=>rfl
  | some x=>
   cases hy:l[j]? with
   | none=>rfl
   | some y=>
    rw[hx,hy] at h
    simp only at h ⊢
    rw[if_neg (of_decide_eq_false h)]
set_option maxHeartbeats 2000000 in
theorem zI17 (g:FuncId) (hg:okFn Tryz.prog g=true) (hc:∀a b:Nt,ACalls Tryz.prog g [noA a,noA b] [] fun u H=>u = .c (I (cmpNt a b))∧H = []) (l:List Nt) (c:Nat) (hl:l.length≤1000000) (hcl:l.length≤c) :
    ACallsX true Tryz.prog 198 [.o 0 0 l.length c,.c (I 0),.c (I l.length),.f (.func g) []] [.arr 37 10 c (noRs l)] fun u H=>u = .t []∧H = [.arr 37 10 c (noRs (insF l))]:=by
 refine zG true (N:=53) Tryz.func198 rfl rfl (by simp) fun E hE hP=>?_
 refine WA ?_
 refine zq (fun q F H=>∃(i:Nat) (l':List Nt),q+i=l.length+1∧1≤i∧(i≤l.length∨i=1)∧l'=insK (i - 1) l∧F = [(0,.o 0 0 l.length c),(1,.c (I 0)),(2,.c (I l.length)),(3,.f (.func g) []),(8,.c (I i))]∧H = [.arr 37 10 c (noRs l')]) ?_ ?_
 ·refine wkg [some 0] (fun _=>[(0,.o 0 0 l.length c),(1,.c (I 0)),(2,.c (I l.length)),(3,.f (.func g) []),(8,.c (I (1:Nat)))]) (fun _=>[.arr 37 10 c (noRs l)]) (fun _=>?_)
  exact⟨l.length,1,l,by omega,by omega,by omega,rfl,rfl,rfl⟩
 rintro q F H ⟨i,l',hq,hi1,hi2,hl',rfl,rfl⟩
 have hll:l'.length=l.length:=by rw[hl',zn7]
 refine WA ?_
 refine zl rfl (fun hlt=>?_) (fun hge=>?_)
 ·refine WA ?_
  refine zq (fun q2 F H=>∃(j:Nat) (l2:List Nt),j=q2∧j≤i∧l2.length=l.length∧insJ j l2=insK i l∧F = [(0,.o 0 0 l.length c),(1,.c (I 0)),(2,.c (I l.length)),(3,.f (.func g) []),(8,.c (I i)),(9,.c (I j))]∧H = [.arr 37 10 c (noRs l2)]) ?_ ?_
  ·refine wkg [some 0] (fun _=>[(0,.o 0 0 l.length c),(1,.c (I 0)),(2,.c (I l.length)),(3,.f (.func g) []),(8,.c (I i)),(9,.c (I i))]) (fun _=>[.arr 37 10 c (noRs l')]) (fun _=>?_)
   refine⟨i,i,l',rfl,Nat.le_refl _,hll, ?_,rfl,rfl⟩
   obtain⟨i',rfl⟩:∃i',i=i'+1:=⟨i - 1,by omega⟩
   rw[insK,hl'];rfl
  rintro q2 F H ⟨j,l2,rfl,hji,hl2,hins,rfl,rfl⟩
  obtain⟨z,hz⟩:∃z,insB j l2=z:=⟨_,rfl⟩
  refine ZZ ?_
  refine zE1 (fun F H=>F = [(0,.o 0 0 l.length c),(1,.c (I 0)),(2,.c (I l.length)),(3,.f (.func g) []),(8,.c (I i)),(9,.c (I j)),(34,.c (B z))]∧H = [.arr 37 10 c (noRs l2)]) ?_ ?_ zV2
  ·cases j with
   | zero=>
    have hz':z=false:=hz.symm
    subst hz'
    refine ZZ ?_
    refine zd [(0,none),(1,none),(2,none),(3,none),(4,none),(5,none),(6,none),(7,none),(8,none),(9,none),(10,none),(11,none),(12,none),(13,none),(14,some []),(15,none),(16,none)] zn (by kernel_rfl) ?_
    refine WP ?_
    first|refine zF3 rfl rfl rfl (by decide) ⟨zh, ?_⟩|(refine zG3 rfl (zz false (fun _=>hc ⟨[],0,0,0,[],[],[],0,[],0⟩ ⟨[],0,0,0,[],[],[],0,[],0⟩) rfl (.clo rfl) rfl (by decide) hg rfl (fun _=>.cons (.aL (C0 rfl)) (.cons (.aL (C0 rfl)) .nil)) (by simp)) ?_;rintro _ _ ⟨_,_,_,⟨rfl,rfl⟩,hF,hH⟩;(refine NST hF hH ?_;clear hF hH;rintro rfl rfl);refine⟨zh, ?_⟩)
    refine WQ ?_
    all_goals exact wkg [some 0] (fun _=>[(0,.o 0 0 l.length c),(1,.c (I 0)),(2,.c (I l.length)),(3,.f (.func g) []),(8,.c (I i)),(9,.c (I (0:Nat))),(34,.c (B false))]) (fun _=>[.arr 37 10 c (noRs l2)]) (fun _=>⟨rfl,rfl⟩)
   | succ j'=>
    obtain⟨x,hx⟩:∃x,l2[j'+1]?=some x:=⟨_,List.getElem?_eq_getElem (by omega)⟩
    obtain⟨y,hy⟩:∃y,l2[j']?=some y:=⟨_,List.getElem?_eq_getElem (by omega)⟩
    rw[insB,hx,hy] at hz
    simp only at hz
    have hrx0:=zC1 hx
    have hry0:=zC1 hy
    have hj1:(((j'+1:Nat):Int) - 1)=(j':Int):=by omega
    have hj0:(0:Int) < ((j'+1:Nat):Int):=by omega
    obtain⟨y0,y1,y2,y3,y4,y5,y6,y7,y8,y9⟩:=x
    obtain⟨z0,z1,z2,z3,z4,z5,z6,z7,z8,z9⟩:=y
    have hrx:(noRs l2)[j'+1]?=some [T y0,I y1,I y2,I y3,T y4,T y5,T y6,I y7,T y8,I y9]:=hrx0
    have hry:(noRs l2)[j']?=some [T z0,I z1,I z2,I z3,T z4,T z5,T z6,I z7,T z8,I z9]:=hry0
    refine ZZ ?_
    refine zd [(0,none),(1,none),(2,none),(3,none),(4,none),(5,none),(6,none),(7,none),(8,none),(9,none),(10,none),(11,none),(12,none),(13,none),(14,some []),(15,none),(16,none)] zn (by kernel_rfl) ?_
    refine WP ?_
    first|refine zF3 rfl rfl rfl (by decide) ⟨zh, ?_⟩|(refine zG3 rfl (zz false (fun _=>hc ⟨y0,y1,y2,y3,y4,y5,y6,y7,y8,y9⟩ ⟨z0,z1,z2,z3,z4,z5,z6,z7,z8,z9⟩) rfl (.clo rfl) rfl (by decide) hg rfl (fun _=>.cons (.aL (C0 rfl)) (.cons (.aL (C0 rfl)) .nil)) (by simp)) ?_;rintro _ _ ⟨_,_,_,⟨rfl,rfl⟩,hF,hH⟩;(refine NST hF hH ?_;clear hF hH;rintro rfl rfl);refine⟨zh, ?_⟩)
    refine WQ ?_
    all_goals exact wkg [some 0] (fun _=>[(0,.o 0 0 l.length c),(1,.c (I 0)),(2,.c (I l.length)),(3,.f (.func g) []),(8,.c (I i)),(9,.c (I (j'+1:Nat))),(34,.c (B z))]) (fun _=>[.arr 37 10 c (noRs l2)]) (fun _=>⟨rfl,rfl⟩)
  rintro F H ⟨rfl,rfl⟩
  refine ZZ ?_
  cases z with
  | true=>
   refine zb rfl ?_
   cases j with
   | zero=>cases hz
   | succ j'=>
   obtain⟨x,hx⟩:∃x,l2[j'+1]?=some x:=⟨_,List.getElem?_eq_getElem (by omega)⟩
   obtain⟨y,hy⟩:∃y,l2[j']?=some y:=⟨_,List.getElem?_eq_getElem (by omega)⟩
   rw[insB,hx,hy] at hz
   rw[zy12 hx hy,if_pos (of_decide_eq_true hz)] at hins
   have hrx0:=zC1 hx
   have hry0:=zC1 hy
   have hj1:(((j'+1:Nat):Int) - 1)=(j':Int):=by omega
   have hm:noRs ((l2.set (j'+1) y).set j' x)=((noRs l2).set (0+(j'+1)) (noR y)).set (0+j') (noR x):=by rw[noRs,List.map_set,List.map_set,Nat.zero_add,Nat.zero_add]
   obtain⟨y0,y1,y2,y3,y4,y5,y6,y7,y8,y9⟩:=x
   obtain⟨z0,z1,z2,z3,z4,z5,z6,z7,z8,z9⟩:=y
   have hrx:(noRs l2)[j'+1]?=some [T y0,I y1,I y2,I y3,T y4,T y5,T y6,I y7,T y8,I y9]:=hrx0
   have hry:(noRs l2)[j']?=some [T z0,I z1,I z2,I z3,T z4,T z5,T z6,I z7,T z8,I z9]:=hry0
   have hry2:((noRs l2).set (0+(j'+1)) [T z0,I z1,I z2,I z3,T z4,T z5,T z6,I z7,T z8,I z9])[0+j']?=some [T z0,I z1,I z2,I z3,T z4,T z5,T z6,I z7,T z8,I z9]:=by rw[List.getElem?_set_ne (by omega),Nat.zero_add];exact hry
   refine ZZ ?_
   refine zd [(0,none),(1,none),(2,none),(3,none),(4,none),(5,none),(6,none),(7,none),(8,none),(9,none),(10,none),(11,none),(12,none),(13,none),(14,none),(15,some [2,3,4]),(16,none),(17,some [])] zn (by kernel_rfl) ?_
   refine WQ ?_
   refine WA ?_
   refine wkg [some 0] (fun _=>[(0,.o 0 0 l.length c),(1,.c (I 0)),(2,.c (I l.length)),(3,.f (.func g) []),(8,.c (I i)),(9,.c (I j'))]) (fun _=>[.arr 37 10 c (noRs ((l2.set (j'+1) ⟨z0,z1,z2,z3,z4,z5,z6,z7,z8,z9⟩).set j' ⟨y0,y1,y2,y3,y4,y5,y6,y7,y8,y9⟩))]) (fun _=>?_) (hH:=by rw[hm];exact ZCH)
   exact⟨j',by omega,j',_,rfl,by omega,by simp[hl2],hins,rfl,rfl⟩
  | false=>
   refine za rfl ?_
   rw[zk11 hz] at hins
   refine WA ?_
   refine wkg [some 0] (fun _=>[(0,.o 0 0 l.length c),(1,.c (I 0)),(2,.c (I l.length)),(3,.f (.func g) []),(8,.c (I (i+1:Nat)))]) (fun _=>[.arr 37 10 c (noRs l2)]) (fun _=>?_)
   exact⟨q - 1,by omega,i+1,_,by omega,by omega,by omega,by rw[hins];rfl,rfl,rfl⟩
 refine ZZ ?_
 have he:l'=insF l:=by
  rw[hl',insF]
  congr 1
  omega
 subst he
 refine zG1 [some 0] (fun _=>[.arr 37 10 c (noRs (insF l))]) (by simp) rfl (by decide) (ZNK rfl) ZCH (fun _=>⟨rfl,rfl⟩)
theorem zH17 (g:FuncId) (l:List Nt) (k c:Nat) (hl:l.length≤1000000) (hcl:l.length≤c) (hk:l.length≤k) (hk2:k≤1000000) :
    ACallsX true Tryz.prog 198 [.o 0 0 l.length c,.c (I k),.c (I l.length),.f (.func g) []] [.arr 37 10 c (noRs l)] fun u H=>u = .t []∧H = [.arr 37 10 c (noRs l)]:=by
 refine zG true (N:=53) Tryz.func198 rfl rfl (by simp) fun E hE hP=>?_
 refine WA ?_
 refine zq (fun q F H=>F = [(0,.o 0 0 l.length c),(1,.c (I k)),(2,.c (I l.length)),(3,.f (.func g) []),(8,.c (I (k+1:Nat)))]∧H = [.arr 37 10 c (noRs l)]) ?_ ?_
 ·refine wkg [some 0] (fun _=>[(0,.o 0 0 l.length c),(1,.c (I k)),(2,.c (I l.length)),(3,.f (.func g) []),(8,.c (I (k+1:Nat)))]) (fun _=>[.arr 37 10 c (noRs l)]) (fun _=>?_)
  exact⟨0,rfl,rfl⟩
 rintro q F H ⟨rfl,rfl⟩
 refine WA ?_
 refine za rfl ?_
 refine ZZ ?_
 refine zG1 [some 0] (fun _=>[.arr 37 10 c (noRs l)]) (by simp) rfl (by decide) (ZNK rfl) ZCH (fun _=>⟨rfl,rfl⟩)
theorem zS16 (g:FuncId) (hg:okFn Tryz.prog g=true) (hc:∀a b:Nt,ACalls Tryz.prog g [noA a,noA b] [] fun u H=>u = .c (I (cmpNt a b))∧H = []) (l:List Nt) (c:Nat) (hl:l.length≤20) (hcl:l.length≤c) :
    ACallsX true Tryz.prog 126 [.o 0 0 l.length c,.c (I l.length),.f (.func g) []] [.arr 37 10 c (noRs l)] fun u H=>u = .t []∧H = [.arr 37 10 c (noRs (insF l))]:=by
 have hil:=zo7 l
 have hi0:=zI17 g hg hc l c (by omega) (by omega)
 refine zG true (N:=63) Tryz.func126 rfl rfl (by simp) fun E hE hP=>?_
 refine WA ?_
 refine WA ?_
 refine zq (fun q F H=>(q=1∧F = [(0,.o 0 0 l.length c),(1,.c (I l.length)),(2,.f (.func g) []),(6,.c (I 20)),(7,.c (I 0)),(8,.c (I 20))]∧H = [.arr 37 10 c (noRs l)])∨(q=0∧l.length=20∧F = [(0,.o 0 0 l.length c),(1,.c (I l.length)),(2,.f (.func g) []),(6,.c (I 20)),(7,.c (I 20)),(8,.c (I 40))]∧H = [.arr 37 10 c (noRs (insF l))])) ?_ ?_
 ·refine wkg [some 0] (fun _=>[(0,.o 0 0 l.length c),(1,.c (I l.length)),(2,.f (.func g) []),(6,.c (I 20)),(7,.c (I 0)),(8,.c (I 20))]) (fun _=>[.arr 37 10 c (noRs l)]) (fun _=>?_)
  exact⟨1,.inl ⟨rfl,rfl,rfl⟩⟩
 rintro q F H (⟨rfl,rfl,rfl⟩|⟨rfl,h20,rfl,rfl⟩)
 ·refine WA ?_
  refine zl rfl (fun hlt=>?_) (fun hge=>?_)
  ·have h20:l.length=20:=by omega
   have hi20:=hi0
   rw[show ((l.length:Nat):Int)=20 from by omega] at hi20
   refine WR ?_
   refine ze rfl (zQ [0] (fun _=>[.arr 37 10 c (noRs l)]) false (fun _=>hi20) rfl .fn rfl (by decide) (by kernel_rfl) rfl ZCH (by decide) ZCH (by simp)) ?_
   rintro F1 H1 ⟨_,_,_,_,⟨rfl,rfl⟩,hF,hH⟩
   rw[zF] at hF;(refine NSU hF hH ?_;clear hF hH;rintro rfl rfl)
   refine WE ?_
   refine WA ?_
   refine WA ?_
   refine wkg [some 0] (fun _=>[(0,.o 0 0 l.length c),(1,.c (I l.length)),(2,.f (.func g) []),(6,.c (I 20)),(7,.c (I 20)),(8,.c (I 40))]) (fun _=>[.arr 37 10 c (noRs (insF l))]) (fun _=>?_)
   exact⟨0,by omega,.inr ⟨rfl,h20,rfl,rfl⟩⟩
  ·refine WR ?_
   refine ze rfl (zQ [0] (fun _=>[.arr 37 10 c (noRs l)]) false (fun _=>hi0) rfl .fn rfl (by decide) (by kernel_rfl) rfl ZCH (by decide) ZCH (by simp)) ?_
   rintro F1 H1 ⟨_,_,_,_,⟨rfl,rfl⟩,hF,hH⟩
   rw[zF] at hF;(refine NSU hF hH ?_;clear hF hH;rintro rfl rfl)
   refine WE ?_
   refine zq (fun q F H=>F = [(1,.c (I l.length)),(6,.c (I 20))]∧H = [.arr 37 10 c (noRs (insF l))]) ?_ ?_
   ·refine wkg [some 0] (fun _=>[(1,.c (I l.length)),(6,.c (I 20))]) (fun _=>[.arr 37 10 c (noRs (insF l))]) (fun _=>?_)
    exact⟨0,rfl,rfl⟩
   rintro q F H ⟨rfl,rfl⟩
   refine WA ?_
   refine za rfl ?_
   refine ZZ ?_
   refine zG1 [some 0] (fun _=>[.arr 37 10 c (noRs (insF l))]) (by simp) rfl (by decide) (ZNK rfl) ZCH (fun _=>⟨rfl,rfl⟩)
 ·refine WA ?_
  refine za rfl ?_
  rw[←hil]
  refine WR ?_
  refine ze rfl (zQ [0] (fun _=>[.arr 37 10 c (noRs (insF l))]) false (fun _=>zH17 g (insF l) 20 c (by omega) (by omega) (by omega) (by omega)) rfl .fn rfl (by decide) (by kernel_rfl) rfl ZCH (by decide) ZCH (by simp)) ?_
  rintro F1 H1 ⟨_,_,_,_,⟨rfl,rfl⟩,hF,hH⟩
  rw[zF] at hF;(refine NSU hF hH ?_;clear hF hH;rintro rfl rfl)
  refine WE ?_
  refine zq (fun q F H=>F = [(1,.c (I (insF l).length)),(6,.c (I 20))]∧H = [.arr 37 10 c (noRs (insF l))]) ?_ ?_
  ·refine wkg [some 0] (fun _=>[(1,.c (I (insF l).length)),(6,.c (I 20))]) (fun _=>[.arr 37 10 c (noRs (insF l))]) (fun _=>?_)
   exact⟨0,rfl,rfl⟩
  rintro q F H ⟨rfl,rfl⟩
  refine WA ?_
  refine za rfl ?_
  refine ZZ ?_
  refine zG1 [some 0] (fun _=>[.arr 37 10 c (noRs (insF l))]) (by simp) rfl (by decide) (ZNK rfl) ZCH (fun _=>⟨rfl,rfl⟩)
theorem zh15 (g:FuncId) (hg:okFn Tryz.prog g=true) (hc:∀a b:Nt,ACalls Tryz.prog g [noA a,noA b] [] fun u H=>u = .c (I (cmpNt a b))∧H = []) (l:List Nt) (c:Nat) (hl:l.length≤20) (hcl:l.length≤c) :
    ACallsX true Tryz.prog 61 [.o 0 0 l.length c,.f (.func g) []] [.arr 37 10 c (noRs l)] fun u H=>u = .t []∧H = [.arr 37 10 c (noRs (insF l))]:=by
 refine zG true (N:=9) Tryz.func61 rfl rfl (by simp) fun E hE hP=>?_
 refine WR ?_
 refine ze rfl (zQ [0] (fun _=>[.arr 37 10 c (noRs l)]) false (fun _=>zS16 g hg hc l c hl hcl) rfl .fn rfl (by decide) (by kernel_rfl) rfl ZCH (by decide) ZCH (by simp)) ?_
 rintro F1 H1 ⟨_,_,_,_,⟨rfl,rfl⟩,hF,hH⟩
 rw[zF] at hF;(refine NSU hF hH ?_;clear hF hH;rintro rfl rfl)
 refine WE ?_
 refine zG1 [some 0] (fun _=>[.arr 37 10 c (noRs (insF l))]) (by simp) rfl (by decide) (ZNK rfl) ZCH (fun _=>⟨rfl,rfl⟩)
end Go.Proofs.YtophoepbedlhjaaGreatDoor
