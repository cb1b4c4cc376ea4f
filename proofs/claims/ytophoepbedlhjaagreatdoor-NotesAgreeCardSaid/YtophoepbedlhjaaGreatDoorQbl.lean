/- A map of strings as the library's data. -/
import Derived.Test.YtophoepbedlhjaaGreatDoorQbk
import Derived.Test.YtophoepbedlhjaaGreatDoorQan
import Derived.Test.YtophoepbedlhjaaGreatDoorQak
import Derived.Test.YtophoepbedlhjaaGreatDoorQaq
import Derived.Test.YtophoepbedlhjaaGreatDoorProg
import Derived.Shelf.SlIter.Sorted
import Derived.Shelf.SortM.Plain
import Derived.Shelf.SortM.SortNone
set_option linter.unusedSimpArgs false
set_option linter.unusedVariables false
-- NEWM
namespace Go.Proofs.YtophoepbedlhjaaGreatDoor
open Go Go.RowKit
set_option maxRecDepth 100000
theorem zg8 {α β:Type} [DecidableEq α] {ck:Nat} {a:α} {b:β}:∀{l:List (Nat × α × β)} {e:Nat × α × β},e∈mset ck a b l→(∃f∈l,e.2.1=f.2.1)∨e.2.1=a
 | [],e,h=>by
  simp only[mset,List.mem_singleton] at h
  subst h
  exact .inr rfl
 | x :: l,e,h=>by
  simp only[mset] at h
  split at h
  ·rename_i hx
   rcases List.mem_cons.1 h with rfl|h
   ·exact .inr (by simp)
   ·exact .inl ⟨e,List.mem_cons_of_mem _ h,rfl⟩
  ·rcases List.mem_cons.1 h with rfl|h
   ·exact .inl ⟨_,List.mem_cons_self,rfl⟩
   ·rcases zg8 h with⟨f,hf,h⟩|h
    ·exact .inl ⟨f,List.mem_cons_of_mem _ hf,h⟩
    ·exact .inr h
structure NmB (b:Bk):Prop where
 js:∀j∈b.js,j.pr.length≤40∧j.nm.length≤40
 sp:∀e∈b.sp,e.2.1.length≤40
theorem zu17 {x:Nt} (h:ntF x=0):(x.kd≠7→keyB x.pr=true)∧(x.kd=1→keyB x.jb=true):=by
 unfold ntF at h
 split at h
 ·cases h
 split at h
 ·cases h
 split at h
 ·cases h
 split at h
 ·cases h
 rename_i h4
 clear h
 simp only[not_or,not_and,Bool.not_eq_false] at h4
 exact⟨fun hk=>h4.1 (by simp[uP,hk]),fun hk=>h4.2.1 (by simp[uJ,hk])⟩
theorem zm6 {α:Type} {f:α→α} {l:List α} {k:Nat} {x:α} (h:x∈l.modify k f):∃y∈l,x=y∨x=f y:=by
 obtain⟨i,hi⟩:=List.mem_iff_getElem?.1 h
 rw[List.getElem?_modify] at hi
 cases hy:l[i]? with
 | none=>rw[hy] at hi;simp at hi
 | some y=>
  rw[hy] at hi
  refine⟨y,List.mem_of_getElem? hy, ?_⟩
  by_cases hk:k=i
  ·simp[hk] at hi
   exact .inr hi.symm
  ·simp[hk] at hi
   exact .inl hi.symm
theorem zQ15 {js:List Jb} {q:List UInt8} {t:Int} (h:∀j∈js,j.pr.length≤40∧j.nm.length≤40):∀j∈layJ js q t,j.pr.length≤40∧j.nm.length≤40:=fun j hj=>by
 unfold layJ at hj
 split at hj
 ·obtain⟨y,hy,rfl|rfl⟩:=zm6 hj
  ·exact h _ hy
  ·exact h y hy
 ·exact h j hj
theorem zK9 {js:List Jb} {q:List UInt8} {s t:Int} (h:∀j∈js,j.pr.length≤40∧j.nm.length≤40):∀j∈stopJ js q s t,j.pr.length≤40∧j.nm.length≤40:=fun j hj=>by
 unfold stopJ at hj
 split at hj
 ·obtain⟨y,hy,rfl|rfl⟩:=zm6 hj
  ·exact h _ hy
  ·exact h y hy
 ·exact h j hj
theorem NmB.next {b:Bk} {x:Nt} (hx:ntF x=0) (h:NmB b):NmB (ntS b x):=by
 obtain⟨hp,hj⟩:=zu17 hx
 unfold ntS
 by_cases c1:x.kd=1
 ·rw[if_pos c1]
  refine⟨fun j hjj=>?_,h.sp⟩
  rcases List.mem_append.1 hjj with hjj|hjj
  ·exact h.js j hjj
  ·rw[List.mem_singleton] at hjj
   subst hjj
   exact⟨zl7 (hp (by omega)),zl7 (hj c1)⟩
 rw[if_neg c1]
 by_cases c2:x.kd=2
 ·rw[if_pos c2];exact⟨zQ15 h.js,h.sp⟩
 rw[if_neg c2]
 by_cases c3:x.kd=3
 ·rw[if_pos c3];exact⟨zK9 h.js,h.sp⟩
 rw[if_neg c3]
 by_cases c4:x.kd=4
 ·rw[if_pos c4];exact⟨zK9 h.js,h.sp⟩
 rw[if_neg c4]
 by_cases c5:x.kd=5
 ·rw[if_pos c5]
  refine⟨h.js,fun e he=>?_⟩
  rcases zg8 he with⟨f,hf,he⟩|he
  ·rw[he];exact h.sp f hf
  ·rw[he];exact zl7 (hp (by omega))
 rw[if_neg c5]
 by_cases c6:x.kd=6
 ·rw[if_pos c6];exact⟨h.js,h.sp⟩
 rw[if_neg c6]
 exact h
theorem zI14 {l:List Nt} (hl:∀x∈l,ntF x=0) (ix:List Int):∀k,NmB (bkK l ix k).1
 | 0=>⟨fun j h=>(by cases h),fun e h=>(by cases h)⟩
 | k+1=>by
  have h:=zI14 hl ix k
  rw[bkK]
  split
  ·split
   ·rename_i x hx
    unfold bkStep
    split
    ·exact h
    ·exact h.next (hl x (List.mem_of_getElem? hx))
   ·exact h
  ·exact h
theorem zd13 {l:List Nt} {at_:Int} (hs:∀x∈l,ntF x=0):NmB (bksF l (cntP at_ l)).1:=zI14 hs _ _
theorem zZ8 {n:Nat} {L:List Nat} (h:L.Nodup) (hs:∀x∈L,x < n):L.length≤n:=by
 have:L.Perm ((List.range n).filter fun k=>L.contains k):=(List.perm_ext_iff_of_nodup h (List.nodup_range.filter _)).2 fun a=>by
  rw[List.mem_filter,List.mem_range]
  simp only[List.contains_iff_mem]
  exact⟨fun ha=>⟨hs a ha,ha⟩,fun ha=>ha.2⟩
 have h2:=this.length_eq
 have h3:=List.length_filter_le (fun k=>L.contains k) (List.range n)
 rw[List.length_range] at h3
 omega
theorem zo2 {α β:Type} [DecidableEq α]:∀{l:List (Nat × α × β)} {e:Nat × α × β},(l.map (·.2.1)).Nodup→e∈l→mget l e.2.1=some e.2.2
 | [],e,_,h=>by cases h
 | x :: l,e,hn,h=>by
  rw[List.map_cons,List.nodup_cons] at hn
  simp only[mget]
  rcases List.mem_cons.1 h with rfl|h
  ·rw[if_pos rfl]
  ·rw[if_neg fun e2=>hn.1 (by rw[←e2];exact List.mem_map_of_mem (f:=(·.2.1)) h)]
   exact zo2 hn.2 h
theorem RunOk.key {js:List Jb} {rl:List (Nat × List UInt8 × List UInt8)} (h:RunOk js rl) {ck:Nat} (hm:MapOk rl ck) {e:Nat × List UInt8 × List UInt8} (he:e∈rl):∃k j,runI js e.2.1=some k∧js[k]?=some j∧j.pr=e.2.1∧j.st=0∧j.nm=e.2.2:=by
 have h1:=zo2 hm.nk he
 rw[h] at h1
 cases hr:runI js e.2.1 with
 | none=>rw[hr] at h1;cases h1
 | some k=>
  obtain⟨j,hj,h2,h3⟩:=zl2 hr
  rw[hr] at h1
  simp only[Option.bind_some] at h1
  rw[hj] at h1
  simp only[Option.map_some,Option.some.injEq] at h1
  exact⟨k,j,rfl,hj,h2,h3,h1⟩
theorem RunOk.len {js:List Jb} {rl:List (Nat × List UInt8 × List UInt8)} (h:RunOk js rl) {ck:Nat} (hm:MapOk rl ck):rl.length≤js.length:=by
 have hn:(rl.map fun e=>(runI js e.2.1).getD 0).Nodup:=by
  have h1:rl.Pairwise fun a b=>a.2.1≠b.2.1:=List.pairwise_map.1 hm.nk
  refine List.pairwise_map.2 (List.Pairwise.imp_of_mem (fun {a b} ha hb hne e=>?_) h1)
  obtain⟨k,j,g1,g2,g3,_⟩:=h.key hm ha
  obtain⟨k2,j2,q1,q2,q3,_⟩:=h.key hm hb
  rw[g1,q1] at e
  simp only[Option.getD_some] at e
  subst e
  rw[g2] at q2
  injection q2 with q2
  subst q2
  exact hne (g3.symm.trans q3)
 have:=zZ8 (n:=js.length) hn fun x hx=>by
  obtain⟨e,he,rfl⟩:=List.mem_map.1 hx
  obtain⟨k,j,g1,g2,_⟩:=h.key hm he
  rw[g1]
  exact(List.getElem?_eq_some_iff.1 g2).1
 rwa [List.length_map] at this
set_option maxHeartbeats 1000000 in
theorem ze6 (hSK:SortedKeysOk) (v:Value) (l:List Nt) (at_:Int) (hl:l.length≤1000000) (hs:∀x∈l,NtS x):ACalls Tryz.prog 42 [.c (.r v (noRs l)),.c (I at_)] [] fun u H=>∃(r:List Pr) (co:Nat),((askF l at_≠0∧r = [])∨(askF l at_=0∧∃rl rk,RunOk (bksF l (cntP at_ l)).1.js rl∧MapOk rl rk∧r=srtP rl))∧r.length≤2000∧r.length≤co∧u = .t [.o 0 0 r.length co,.c (I (askF l at_))]∧H = [.arr 52 2 co (prRs r)]:=by
 by_cases h0:askF l at_=0
 ·have hjl:=ze13 (at_:=at_) (zg2 (zh2 h0)).1
  have hnm:=zd13 (at_:=at_) (zg2 (zh2 h0)).2
  rw[h0]
  refine zf (N:=22) Tryz.func42 rfl rfl (by simp) fun E hE=>?_
  refine WA ?_
  refine WR ?_
  refine ze rfl (efk (c:=fun _=>zw6 v l at_ hl hs h0)) ?_
  rintro _ _ ⟨_,_,_,⟨rfl,b,R1,R2,bl,rl,rk,c1,c2,hbf,hB,hbl,hrl,hrm,h1l,h2l,hc1,hc2,rfl⟩,hF,hH⟩
  (refine NST hF hH ?_;clear hF hH;rintro rfl rfl)
  refine WE ?_
  refine WA ?_
  refine za rfl ?_
  refine ZZ ?_
  rw[hbf] at hjl hnm
  simp only at hjl hnm
  have hrlen:=hrl.len hrm
  have hkl:∀e∈rl,e.2.1.length≤1000000:=fun e he=>by
   obtain⟨k,j,_,g2,g3,_⟩:=hrl.key hrm he
   have:=(hnm.js j (List.mem_of_getElem? g2)).1
   rw[←g3]
   omega
  have hsl:(srtP rl).length=rl.length:=by simp[srtP,zf4]
  refine WR ?_
  refine ze rfl (zQ [2] (fun _=>[mSS rl rk]) false (fun _=>zk12 hSK rl rk hrm (by omega) hkl) rfl .fn rfl (by decide) (by kernel_rfl) rfl ZCH (by decide) ZCH (by simp)) ?_
  rintro F1 H1 ⟨_,_,_,_,⟨co,cs,hco,rfl,rfl⟩,hF,hH⟩
  rw[zF] at hF;(refine NSU hF hH ?_;clear hF hH;rintro rfl rfl)
  refine WE ?_
  exact zA (us:=[.o 11 0 rl.length co,.c (I 0)]) [some 11] (fun _=>.t [.o 0 0 rl.length co,.c (I 0)]) (fun _=>[.arr 52 2 co (prRs (srtP rl))]) (.tmp rfl (.tmp rfl .nil)) (by decide) (ZNK rfl) (fun _=>.tL (.cons (.o rfl rfl) (.cons (.c rfl) .nil))) ZCH (fun _=>⟨srtP rl,co,.inr ⟨rfl,rl,rk,by rw[hbf];exact hrl,hrm,rfl⟩,by omega,by omega,by rw[hsl],rfl⟩)
 ·refine zf (N:=22) Tryz.func42 rfl rfl (by simp) fun E hE=>?_
  refine WA ?_
  refine WR ?_
  refine ze rfl (efk (c:=fun _=>zx6 v l at_ hl hs h0)) ?_
  rintro _ _ ⟨_,_,_,⟨rfl,rfl⟩,hF,hH⟩
  (refine NST hF hH ?_;clear hF hH;rintro rfl rfl)
  refine WE ?_
  generalize askF l at_=e at h0 ⊢
  refine WA ?_
  refine zb rfl ?_
  refine WA ?_
  exact zA (us:=[.c (.r (.slice none 0 0) []),.c (I e)]) [none] (fun _=>.t [.o 0 0 0 0,.c (I e)]) (fun _=>[.arr 52 2 0 []]) (.tmp rfl (.tmp rfl .nil)) (by decide) (ZNK rfl) (fun _=>.tL (.cons (.nil rfl) (.cons (.c rfl) .nil))) ZCH (fun _=>⟨[],0,.inl ⟨h0,rfl⟩,Nat.zero_le _,Nat.le_refl _,rfl,rfl⟩)
end Go.Proofs.YtophoepbedlhjaaGreatDoor
-- NEWM
namespace Go.Proofs.YtophoepbedlhjaaGreatDoor
open Go Go.RowKit
set_option maxRecDepth 100000
theorem zf11 {β:Type} {m0:List (Nat × List UInt8 × β)} {k:List UInt8} {v:β} (h:MapOk m0 m0.length) (hk:k∉m0.map (·.2.1)):mset m0.length k v m0=m0++[(m0.length,k,v)]∧mclk m0.length k m0=m0.length+1∧MapOk (m0++[(m0.length,k,v)]) (m0.length+1):=by
 have hn:=mget_none.2 hk
 have h1:mset m0.length k v m0=m0++[(m0.length,k,v)]:=zD2 hn
 have h2:mclk m0.length k m0=m0.length+1:=by rw[mclk,hn];rfl
 have h3:=h.set k v
 rw[h1,h2] at h3
 exact⟨h1,h2,h3⟩
set_option maxHeartbeats 2000000 in
theorem zv12 (hSK:SortedKeysOk) (v:Value) (l:List Nt) (at_:Int) (hl:l.length≤1000000) (hs:∀x∈l,NtS x):ACalls Tryz.prog 10 [.c (.r v (noRs l)),.c (I at_)] [] fun u H=>∃(r:List Pr) (co:Nat),((askF l at_≠0∧r = [])∨(askF l at_=0∧∃m0 ck,MapOk m0 ck∧(m0.map (·.2)).Perm ((bksF l (cntP at_ l)).1.js.filterMap stPr)∧r=srtP m0))∧r.length≤2000∧r.length≤co∧u = .t [.o 0 0 r.length co,.c (I (askF l at_))]∧H = [.arr 52 2 co (prRs r)]:=by
 by_cases h0:askF l at_=0
 ·have hjl:=ze13 (at_:=at_) (zg2 (zh2 h0)).1
  have hnm:=zd13 (at_:=at_) (zg2 (zh2 h0)).2
  have hspl:=zx16 (at_:=at_) (zg2 (zh2 h0)).1 (zg2 (zh2 h0)).2
  have hpx:PoolIx 8:=⟨trivial⟩
  rw[h0]
  refine zf (N:=39) Tryz.func10 rfl rfl (by simp) fun E hE=>?_
  refine WA ?_
  refine WR ?_
  refine ze rfl (efk (c:=fun _=>zw6 v l at_ hl hs h0)) ?_
  rintro _ _ ⟨_,_,_,⟨rfl,b,R1,R2,bl,rl,rk,c1,c2,hbf,hB,hbl,hrl,hrm,h1l,h2l,hc1,hc2,rfl⟩,hF,hH⟩
  (refine NST hF hH ?_;clear hF hH;rintro rfl rfl)
  refine WE ?_
  refine WA ?_
  refine za rfl ?_
  refine ZZ ?_
  rw[hbf] at hjl hnm hspl
  simp only at hjl hnm hspl
  have hJ:=hB.js
  have hok:MapOk (jlF 0 b.js bl) b.js.length:=zE17 hJ hbl
  have hjlen:(jlF 0 b.js bl).length=b.js.length:=by have:=congrArg List.length (zw4 (i:=0) hbl);rw[List.length_map,List.length_range'] at this;exact this
  refine ZR ?_
  refine ze rfl (zz1 rfl rfl (by decide)) ?_
  rintro _ _ ⟨rfl,rfl⟩
  refine WE ?_
  refine ZR ?_
  iterate 4 refine WX1 ?_
  refine ze rfl (zv10 (ke:=encSt) (ve:=encPt) (l:=jlF 0 b.js bl) (ck:=b.js.length) rfl rfl (by decide) Tryz.underlying111 rfl rfl) ?_
  rintro _ _ ⟨rfl,rfl⟩
  refine WE ?_
  refine zq (fun m F H=>∃(seen:List Nat) (m0:List (Nat × List UInt8 × List UInt8)),unsG (jlF 0 b.js bl) seen=m∧m+seen.length≤b.js.length∧seen.Nodup∧(∀k∈seen,k < b.js.length)∧m0.map (·.2)=fmJ stPr b.js seen∧MapOk m0 m0.length∧F = [(8,.mp 9),(25,.p 10 0 0)]∧H = [.box [.mp 1,.mp 2,.mp 3,.mp 4,.mp 5,.o 6 0 (R1).length c1,.o 7 0 (R2).length c2],mSP (jlF 0 b.js bl) b.js.length,mSS rl rk,mSS b.sp b.spk,mSI b.lf b.lfk,mSI b.us b.usk,.arr 3 1 c1 (nR (R1)),.arr 31 1 c2 (nR (R2)),.pool (plF jbP b.js bl),mSS m0 m0.length,.itr 1 b.js.length seen b.js.length]) ?_ ?_
  ·refine wkg [some 0,some 1,some 2,some 3,some 4,some 5,some 6,some 7,some 8,some 9,some 10] (fun _=>[(8,.mp 9),(25,.p 10 0 0)]) (fun _=>[.box [.mp 1,.mp 2,.mp 3,.mp 4,.mp 5,.o 6 0 (R1).length c1,.o 7 0 (R2).length c2],mSP (jlF 0 b.js bl) b.js.length,mSS rl rk,mSS b.sp b.spk,mSI b.lf b.lfk,mSI b.us b.usk,.arr 3 1 c1 (nR (R1)),.arr 31 1 c2 (nR (R2)),.pool (plF jbP b.js bl),mSS [] 0,.itr 1 b.js.length [] b.js.length]) (fun _=>?_)
   exact⟨_,[],[],rfl,by have:=zZ14 (jlF 0 b.js bl) [];rw[hjlen] at this;exact this,List.nodup_nil,fun k h=>(by cases h),rfl,.nil,rfl,rfl⟩
  rintro m F H ⟨seen,m0,hm,hml,hnd,hsl,hout,hm0,rfl,rfl⟩
  have hol:m0.length≤2000:=by have h1:=congrArg List.length hout;rw[List.length_map] at h1;have:=zZ15 stPr b.js seen;omega
  refine ZR ?_
  refine ze rfl (zK12 (ke:=encSt) (ve:=encPt) (l:=jlF 0 b.js bl) rfl rfl (by decide) rfl rfl rfl hok.hb (Nat.le_refl _)) ?_
  rintro _ _ (⟨⟨eb,ek,es⟩,he,hne,rfl,rfl⟩|⟨hall,rfl,rfl⟩)
  all_goals (refine WE ?_)
  ·refine zb rfl ?_
   obtain⟨k,j,b0,hj,hb,heq⟩:=ze9 he
   injection heq with q1 q2
   injection q2 with q2 q3
   subst q1;subst q2;subst q3
   have hlt:unsG (jlF 0 b.js bl) (seen++[0+k]) < unsG (jlF 0 b.js bl) seen:=zE11 he hne
   have hin:InPool k b0 (plF jbP b.js bl) [T (stW j.st),I j.ly.length,I j.all,I j.beg,I (j.ly.getLast?.getD 0),I j.en]:=⟨zS6 hj hb⟩
   have hkm:j.nm∉m0.map (·.2.1):=fun h=>by
    obtain⟨e,hem,hen⟩:=List.mem_map.1 h
    have h2:e.2∈m0.map (·.2):=List.mem_map_of_mem (f:=fun e:Nat × List UInt8 × List UInt8=>e.2) hem
    rw[hout] at h2
    obtain⟨q,hq,hq2⟩:=List.mem_filterMap.1 h2
    cases hjq:b.js[q]? with
    | none=>rw[hjq] at hq2;cases hq2
    | some j2=>
     rw[hjq] at hq2
     simp only[Option.bind_some,stPr,Option.some.injEq] at hq2
     have hn2:j2.nm=j.nm:=by rw[←hen,←hq2]
     have:=hJ.nm q k j2 j hjq hj hn2
     subst this
     exact hne (by simpa using hq)
   obtain⟨g1,g2,g3⟩:=zf11 (v:=stW j.st) hm0 hkm
   have hnd2:(seen++[0+k]).Nodup:=List.nodup_append.2 ⟨hnd,by simp,fun a ha b hb h=>by simp at hb;subst hb;subst h;exact hne (by simpa using ha)⟩
   have hsl2:∀q∈seen++[0+k],q < b.js.length:=fun q hq=>by
    rcases List.mem_append.1 hq with hq|hq
    ·exact hsl q hq
    ·rw[List.mem_singleton,Nat.zero_add] at hq;subst hq;exact(List.getElem?_eq_some_iff.1 hj).1
   have hout2:(m0++[(m0.length,j.nm,stW j.st)]).map (·.2)=fmJ stPr b.js (seen++[0+k]):=by rw[zY13 (f:=stPr) hj rfl,List.map_append,hout];rfl
   refine ZR ?_
   refine ZA (zS9 (ke:=encSt) (ve:=encPt) (e:=(0+k,j.nm,ptrV b0)) rfl rfl rfl rfl he hok.nb) ?_
   refine WE ?_
   refine ZR ?_
   iterate 6 refine WX1 ?_
   refine ze rfl (zu7 (k:=j.nm) (l:=m0) (z:=(stW j.st)) rfl rfl rfl rfl rfl rfl) ?_
   rintro _ _ ⟨rfl,rfl⟩
   refine WE ?_
   rw[g1,g2]
   refine wkg [some 0,some 1,some 2,some 3,some 4,some 5,some 6,some 7,some 8,some 9,some 10] (fun _=>[(8,.mp 9),(25,.p 10 0 0)]) (fun _=>[.box [.mp 1,.mp 2,.mp 3,.mp 4,.mp 5,.o 6 0 (R1).length c1,.o 7 0 (R2).length c2],mSP (jlF 0 b.js bl) b.js.length,mSS rl rk,mSS b.sp b.spk,mSI b.lf b.lfk,mSI b.us b.usk,.arr 3 1 c1 (nR (R1)),.arr 31 1 c2 (nR (R2)),.pool (plF jbP b.js bl),mSS (m0++[(m0.length,j.nm,stW j.st)]) (m0++[(m0.length,j.nm,stW j.st)]).length,.itr 1 b.js.length (seen++[0+k]) b.js.length]) (fun _=>?_) (hH:=by rw[List.length_append,List.length_singleton];exact ZCH)
   exact⟨_,by rw[←hm];exact hlt,seen++[0+k],_,rfl,by rw[List.length_append,List.length_singleton];omega,hnd2,hsl2,hout2,by rw[List.length_append,List.length_singleton];exact g3,rfl,rfl⟩
  ·refine za rfl ?_
   have hp:(m0.map (·.2)).Perm (b.js.filterMap stPr):=by
    rw[hout]
    refine za16 hnd hsl fun k hk=>?_
    obtain⟨b0,hb0⟩:∃b0,bl[k]?=some b0:=⟨_,List.getElem?_eq_getElem (by rw[hbl];exact hk)⟩
    simpa using hall _ (zC14 (i:=0) (List.getElem?_eq_getElem hk) hb0)
   have hkl:∀e∈m0,e.2.1.length≤1000000:=fun e he=>by
    have h2:e.2∈m0.map (·.2):=List.mem_map_of_mem (f:=(·.2)) he
    obtain⟨j,hj,hj2⟩:=List.mem_filterMap.1 (hp.subset h2)
    simp only[stPr,Option.some.injEq] at hj2
    have:=(hnm.js j hj).2
    rw[←hj2]
    simp only
    omega
   have hsl:(srtP m0).length=m0.length:=by simp[srtP,zf4]
   refine WR ?_
   refine ze rfl (zQ [9] (fun _=>[mSS m0 m0.length]) false (fun _=>zk12 hSK m0 m0.length hm0 (by omega) hkl) rfl .fn rfl (by decide) (by kernel_rfl) rfl ZCH (by decide) ZCH (by simp)) ?_
   rintro F1 H1 ⟨_,_,_,_,⟨co,cs,hco,rfl,rfl⟩,hF,hH⟩
   rw[zF] at hF;(refine NSU hF hH ?_;clear hF hH;rintro rfl rfl)
   refine WE ?_
   exact zA (us:=[.o 13 0 m0.length co,.c (I 0)]) [some 13] (fun _=>.t [.o 0 0 m0.length co,.c (I 0)]) (fun _=>[.arr 52 2 co (prRs (srtP m0))]) (.tmp rfl (.tmp rfl .nil)) (by decide) (ZNK rfl) (fun _=>.tL (.cons (.o rfl rfl) (.cons (.c rfl) .nil))) ZCH (fun _=>⟨srtP m0,co,.inr ⟨rfl,m0,m0.length,hm0,by rw[hbf];exact hp,rfl⟩,by omega,by omega,by rw[hsl],rfl⟩)
 ·refine zf (N:=39) Tryz.func10 rfl rfl (by simp) fun E hE=>?_
  refine WA ?_
  refine WR ?_
  refine ze rfl (efk (c:=fun _=>zx6 v l at_ hl hs h0)) ?_
  rintro _ _ ⟨_,_,_,⟨rfl,rfl⟩,hF,hH⟩
  (refine NST hF hH ?_;clear hF hH;rintro rfl rfl)
  refine WE ?_
  generalize askF l at_=e at h0 ⊢
  refine WA ?_
  refine zb rfl ?_
  refine WA ?_
  exact zA (us:=[.c (.r (.slice none 0 0) []),.c (I e)]) [none] (fun _=>.t [.o 0 0 0 0,.c (I e)]) (fun _=>[.arr 52 2 0 []]) (.tmp rfl (.tmp rfl .nil)) (by decide) (ZNK rfl) (fun _=>.tL (.cons (.nil rfl) (.cons (.c rfl) .nil))) ZCH (fun _=>⟨[],0,.inl ⟨h0,rfl⟩,Nat.zero_le _,Nat.le_refl _,rfl,rfl⟩)
end Go.Proofs.YtophoepbedlhjaaGreatDoor
namespace Go.Proofs.YtophoepbedlhjaaGreatDoor
open Go Go.RowKit
set_option maxRecDepth 100000
abbrev zL4 (v:Value) (l:List Int):CV:=.r v (l.map fun z=>[I z])
def firstK:List Int→Int
 | []=>0
 | e :: l=>if e≠0 then e else firstK l
theorem zn11 {α:Type} {l:List α} {k:Nat} {s:α} (h:l[k]?=some s):l.drop k=s :: l.drop (k+1):=by
 obtain⟨hk,rfl⟩:=List.getElem?_eq_some_iff.1 h
 exact List.drop_eq_getElem_cons hk
theorem zJ5 {l:List Int} {k:Nat} {e:Int} (h:l[k]?=some e):firstK (l.drop k)=if e≠0 then e else firstK (l.drop (k+1)):=by
 rw[zn11 h];rfl
theorem zy18 (l:List Int) (v:Value) (hl:l.length≤1000000):ACalls Tryz.prog 24 [.c (zL4 v l)] [] fun u H=>u = .c (I (firstK l))∧H = []:=by
 have e1:(l.map fun e=>[I e]).length=l.length:=by simp
 refine zf (N:=15) Tryz.func24 rfl rfl (by simp) fun E hE=>?_
 refine WA ?_
 refine WA ?_
 refine zq (fun m F H=>∃(k:Nat),m+k=l.length∧firstK (l.drop k)=firstK l∧F = [(5,.c (zL4 v l)),(6,.c (I (l.map fun e=>[I e]).length)),(7,.c (I k))]∧H = []) ?_ ?_
 ·refine zZ2 [] (fun _=>[(5,.c (zL4 v l)),(6,.c (I (l.map fun e=>[I e]).length)),(7,.c (I (0:Nat)))]) (fun _=>_) (by decide) (ZNL hE) ZCF (fun _=>.nil) (fun _=>?_)
  exact⟨l.length,0,by omega,rfl,rfl,rfl⟩
 rintro m F H ⟨k,hk,hf,rfl,rfl⟩
 refine WA ?_
 refine zl rfl (fun hlt=>?_) (fun hge=>?_)
 ·obtain⟨e,he⟩:∃e,l[k]?=some e:=⟨_,List.getElem?_eq_getElem (by omega)⟩
  have hrow:(l.map fun e=>[I e])[k]?=some [I e]:=by rw[List.getElem?_map,he];rfl
  have hfd:=zJ5 he
  refine WA ?_
  refine WA ?_
  refine zl rfl (fun hne=>?_) (fun heq=>?_)
  ·refine WA ?_
   exact arz (q:=⟨by rw[←hf,hfd,if_pos hne],rfl⟩)
  ·refine WA ?_
   refine zZ2 [] (fun _=>[(5,.c (zL4 v l)),(6,.c (I (l.map fun e=>[I e]).length)),(7,.c (I (k+1:Nat)))]) (fun _=>_) (by decide) (ZNL hE) ZCF (fun _=>.nil) (fun _=>?_)
   exact⟨m - 1,by omega,k+1,by omega,by rw[←hf,hfd,if_neg heq],rfl,rfl⟩
 refine WA ?_
 refine arz (q:=⟨?_,rfl⟩)
 rw[←hf,List.drop_eq_nil_of_le (by omega)];rfl
theorem zH12 (l:List Int) (v:Value) (hl:l.length≤1000000):ACalls Tryz.prog 39 [.c (zL4 v l)] [] fun u H=>u = .c (I (firstK l))∧H = []:=by
 have e1:(l.map fun e=>[I e]).length=l.length:=by simp
 refine zf (N:=15) Tryz.func39 rfl rfl (by simp) fun E hE=>?_
 refine WA ?_
 refine WA ?_
 refine zq (fun m F H=>∃(k:Nat),m+k=l.length∧firstK (l.drop k)=firstK l∧F = [(5,.c (zL4 v l)),(6,.c (I (l.map fun e=>[I e]).length)),(7,.c (I k))]∧H = []) ?_ ?_
 ·refine zZ2 [] (fun _=>[(5,.c (zL4 v l)),(6,.c (I (l.map fun e=>[I e]).length)),(7,.c (I (0:Nat)))]) (fun _=>_) (by decide) (ZNL hE) ZCF (fun _=>.nil) (fun _=>?_)
  exact⟨l.length,0,by omega,rfl,rfl,rfl⟩
 rintro m F H ⟨k,hk,hf,rfl,rfl⟩
 refine WA ?_
 refine zl rfl (fun hlt=>?_) (fun hge=>?_)
 ·obtain⟨e,he⟩:∃e,l[k]?=some e:=⟨_,List.getElem?_eq_getElem (by omega)⟩
  have hrow:(l.map fun e=>[I e])[k]?=some [I e]:=by rw[List.getElem?_map,he];rfl
  have hfd:=zJ5 he
  refine WA ?_
  refine WA ?_
  refine zl rfl (fun hne=>?_) (fun heq=>?_)
  ·refine WA ?_
   exact arz (q:=⟨by rw[←hf,hfd,if_pos hne],rfl⟩)
  ·refine WA ?_
   refine zZ2 [] (fun _=>[(5,.c (zL4 v l)),(6,.c (I (l.map fun e=>[I e]).length)),(7,.c (I (k+1:Nat)))]) (fun _=>_) (by decide) (ZNL hE) ZCF (fun _=>.nil) (fun _=>?_)
   exact⟨m - 1,by omega,k+1,by omega,by rw[←hf,hfd,if_neg heq],rfl,rfl⟩
 refine WA ?_
 refine arz (q:=⟨?_,rfl⟩)
 rw[←hf,List.drop_eq_nil_of_le (by omega)];rfl
end Go.Proofs.YtophoepbedlhjaaGreatDoor
-- NEWM
namespace Go.Proofs.YtophoepbedlhjaaGreatDoor
open Go Go.RowKit
set_option maxRecDepth 100000
section
variable {N:Nat} {E:Env} {o:Oper} {F:Fm} {H:List OB} {x y:Operand} {yt:TypeId}
theorem zF13 {a0 a1 b0 b1:ByteArray} (ho:o.op = .binOp .neq 52 x y yt) (hx:ev F x=some (.a [.c (.s (.string a0)),.c (.s (.string a1))])) (hy:ev F y=some (.a [.c (.s (.string b0)),.c (.s (.string b1))])):Rd Tryz.prog N E o F H (.c (.s (.bool (decide (¬(a0.toList=b0.toList∧a1.toList=b1.toList)))))):=
 zD1 (dx:=.agg #[.string a0,.string a1]) (dy:=.agg #[.string b0,.string b1]) ho hx hy (fun _ _=>by simp[AV.den,CV.den,AV.denL]) (fun _ _=>by simp[AV.den,CV.den,AV.denL]) fun w=>by
  go_simp
  repeat' split
  all_goals simp_all
theorem zB15 {a b:Pr} {q:Bool} (h:decide (¬a=b)=q) (ho:o.op = .binOp .neq 52 x y yt) (hx:ev F x=some (prA a)) (hy:ev F y=some (prA b)):Rd Tryz.prog N E o F H (.c (.s (.bool q))):=by
 have:=zF13 (N:=N) (E:=E) (H:=H) ho hx hy
 rwa [show decide (¬((bst a.1).toList=(bst b.1).toList∧(bst a.2).toList=(bst b.2).toList))=q by
  rw[←h]
  congr 1
  simp only[zI1]
  rw[Prod.ext_iff]] at this
end
theorem zu10 (v w:Value) (a b:List Pr) (ha:a.length≤1000000) (hb:b.length≤1000000):ACalls Tryz.prog 14 [.c (.r v (prRs a)),.c (.r w (prRs b))] [] fun u H=>u = .c (B (decide (a=b)))∧H = []:=by
 have e1:(prRs a).length=a.length:=by simp
 have e2:(prRs b).length=b.length:=by simp
 refine zf (N:=26) Tryz.func14 rfl rfl (by simp) fun E hE=>?_
 refine WA ?_
 refine WA ?_
 refine zl rfl (fun h0=>?_) (fun h0=>?_)
 ·refine WA ?_
  exact arz (q:=⟨by rw[decide_eq_false (fun h=>h0 (by rw[h]))],rfl⟩)
 have hlen:a.length=b.length:=by omega
 refine WA ?_
 refine zq (fun m F H=>∃(k:Nat),m+k=a.length∧a.take k=b.take k∧F = [(0,.c (.r v (prRs a))),(1,.c (.r w (prRs b))),(12,.c (I (prRs a).length)),(13,.c (I k))]∧H = []) ?_ ?_
 ·refine wkg [] (fun _=>[(0,.c (.r v (prRs a))),(1,.c (.r w (prRs b))),(12,.c (I (prRs a).length)),(13,.c (I (0:Nat)))]) (fun _=>[]) (fun _=>?_) (hH:=fun _=>.nil)
  exact⟨a.length,0,by omega,rfl,rfl,rfl⟩
 rintro m F H ⟨k,hk,hf,rfl,rfl⟩
 refine WA ?_
 refine zl rfl (fun hlt=>?_) (fun hge=>?_)
 ·obtain⟨x,hx⟩:∃n,a[k]?=some n:=⟨_,List.getElem?_eq_getElem (by omega)⟩
  obtain⟨y,hy⟩:∃n,b[k]?=some n:=⟨_,List.getElem?_eq_getElem (by omega)⟩
  have hrx0:(prRs a)[k]?=some (prR x):=by rw[List.getElem?_map,hx];rfl
  have hry0:(prRs b)[k]?=some (prR y):=by rw[List.getElem?_map,hy];rfl
  obtain⟨q,hq⟩:∃q,decide (¬x=y)=q:=⟨_,rfl⟩
  have hta:a.take (k+1)=a.take k++[x]:=by rw[List.take_add_one,hx];rfl
  have htb:b.take (k+1)=b.take k++[y]:=by rw[List.take_add_one,hy];rfl
  obtain⟨x0,x1⟩:=x
  obtain⟨y0,y1⟩:=y
  have hrx:(prRs a)[k]?=some [T x0,T x1]:=hrx0
  have hry:(prRs b)[k]?=some [T y0,T y1]:=hry0
  refine WA ?_
  refine ZZ ?_
  refine zd [(0,none),(1,none),(2,none),(3,none),(4,none),(5,none),(6,none),(7,none),(8,none)] zn (by kernel_rfl) ?_
  iterate 8 refine WX2 ?_
  refine ZT rfl (zB15 (a:=(x0,x1)) (b:=(y0,y1)) hq rfl rfl rfl) ?_
  refine WQ ?_
  cases q with
  | true=>
   refine zb rfl ?_
   refine WA ?_
   refine arz (q:=⟨?_,rfl⟩)
   rw[decide_eq_false]
   intro h
   rw[h,hy] at hx
   exact of_decide_eq_true hq (Option.some.inj hx).symm
  | false=>
   refine za rfl ?_
   refine WA ?_
   refine wkg [] (fun _=>[(0,.c (.r v (prRs a))),(1,.c (.r w (prRs b))),(12,.c (I (prRs a).length)),(13,.c (I (k+1:Nat)))]) (fun _=>[]) (fun _=>?_) (hH:=fun _=>.nil)
   exact⟨m - 1,by omega,k+1,by omega,by rw[hta,htb,hf,Decidable.not_not.1 (of_decide_eq_false hq)],rfl,rfl⟩
 rw[List.take_of_length_le (by omega),List.take_of_length_le (by omega)] at hf
 refine WA ?_
 exact arz (q:=⟨by rw[decide_eq_true hf],rfl⟩)
end Go.Proofs.YtophoepbedlhjaaGreatDoor
namespace Go.Proofs.YtophoepbedlhjaaGreatDoor
open Go Go.RowKit Go.Maps Go.Sort Go.Shelf
set_option maxRecDepth 100000
def zE5:Go.Shelf.Ren:=⟨fun|7=>124|10=>196|n=>n,fun|23=>110|26=>9|3=>9|28=>208|0=>0|27=>207|33=>151|4=>4|n=>n,fun|n=>n⟩
theorem keysSSL:Go.Proofs.SlLaysZ.n7 Tryz.prog zE5:={
 mixed:=by kernel_rfl
 f7:=⟨Tryz.f124.name,by decide,Tryz.func124.trans (congrArg some (by kernel_rfl))⟩
 f10:=⟨Tryz.f196.name,by decide,Tryz.func196.trans (congrArg some (by kernel_rfl))⟩
 t0:=Tryz.underlying0
 a0:=Tryz.isAgg0
 z0:=Tryz.sizeOf0
 v0:=Tryz.zeroValue0
 t4:=Tryz.underlying4
 a4:=Tryz.isAgg4
 z4:=Tryz.sizeOf4
 v4:=Tryz.zeroValue4
 t23:=Tryz.underlying110
 a23:=Tryz.isAgg110
 z23:=Tryz.sizeOf110
 v23:=Tryz.zeroValue110
 t26:=Tryz.underlying9
 a26:=Tryz.isAgg9
 z26:=Tryz.sizeOf9
 v26:=Tryz.zeroValue9
 t27:=Tryz.underlying207
 a27:=Tryz.isAgg207
 z27:=Tryz.sizeOf207
 v27:=Tryz.zeroValue207
 t28:=Tryz.underlying208
 a28:=Tryz.isAgg208
 z28:=Tryz.sizeOf208
 v28:=Tryz.zeroValue208
 t33:=Tryz.underlying151
 a33:=Tryz.isAgg151
 z33:=Tryz.sizeOf151
 v33:=Tryz.zeroValue151 }
def zH4:Go.Shelf.Ren:=⟨fun|6=>123|8=>194|9=>195|11=>286|13=>135|12=>287|23=>215|24=>216|14=>340|15=>341|16=>342|17=>343|18=>344|19=>345|20=>346|21=>347|22=>348|25=>386|26=>293|27=>294|28=>387|29=>388|30=>389|31=>420|n=>n,fun|26=>9|28=>208|24=>61|0=>0|3=>3|37=>211|48=>274|50=>277|4=>4|40=>286|39=>285|45=>166|5=>5|9=>9|51=>360|55=>364|57=>417|58=>418|33=>151|n=>n,fun|n=>n⟩
theorem sortedSL:Go.Proofs.SlLaysZ.n6 Tryz.prog zH4:={
 mixed:=by kernel_rfl
 f6:=⟨Tryz.f123.name,by decide,Tryz.func123.trans (congrArg some (by kernel_rfl))⟩
 f8:=⟨Tryz.f194.name,by decide,Tryz.func194.trans (congrArg some (by kernel_rfl))⟩
 f11:=⟨Tryz.f286.name,by decide,Tryz.func286.trans (congrArg some (by kernel_rfl))⟩
 t0:=Tryz.underlying0
 a0:=Tryz.isAgg0
 z0:=Tryz.sizeOf0
 v0:=Tryz.zeroValue0
 t24:=Tryz.underlying61
 a24:=Tryz.isAgg61
 z24:=Tryz.sizeOf61
 v24:=Tryz.zeroValue61
 t26:=Tryz.underlying9
 a26:=Tryz.isAgg9
 z26:=Tryz.sizeOf9
 v26:=Tryz.zeroValue9
 t28:=Tryz.underlying208
 a28:=Tryz.isAgg208
 z28:=Tryz.sizeOf208
 v28:=Tryz.zeroValue208
 i26:=by kernel_rfl }
def zO10:Go.Shelf.Ren:=⟨fun|6=>195|8=>135|9=>287|19=>215|20=>216|21=>340|22=>341|23=>342|24=>343|25=>344|26=>345|27=>346|28=>347|29=>348|36=>386|31=>293|32=>294|37=>387|38=>388|39=>389|41=>420|n=>n,fun|27=>61|29=>9|3=>3|32=>211|26=>61|0=>0|44=>274|46=>277|4=>4|36=>286|35=>285|41=>166|5=>5|9=>9|53=>360|57=>364|63=>417|64=>418|n=>n,fun|n=>n⟩
theorem sortSL:Go.Proofs.SlLaysM.n6 Tryz.prog zO10:={
 mixed:=by kernel_rfl
 f6:=⟨Tryz.f195.name,by decide,Tryz.func195.trans (congrArg some (by kernel_rfl))⟩
 f8:=Tryz.func135.trans (congrArg some (by kernel_rfl))
 f9:=⟨Tryz.f287.name,by decide,Tryz.func287.trans (congrArg some (by kernel_rfl))⟩
 f19:=Tryz.func215.trans (congrArg some (by kernel_rfl))
 f20:=Tryz.func216.trans (congrArg some (by kernel_rfl))
 f21:=⟨Tryz.f340.name,by decide,Tryz.func340.trans (congrArg some (by kernel_rfl))⟩
 f22:=⟨Tryz.f341.name,by decide,Tryz.func341.trans (congrArg some (by kernel_rfl))⟩
 f23:=⟨Tryz.f342.name,by decide,Tryz.func342.trans (congrArg some (by kernel_rfl))⟩
 f24:=⟨Tryz.f343.name,by decide,Tryz.func343.trans (congrArg some (by kernel_rfl))⟩
 f25:=⟨Tryz.f344.name,by decide,Tryz.func344.trans (congrArg some (by kernel_rfl))⟩
 f26:=⟨Tryz.f345.name,by decide,Tryz.func345.trans (congrArg some (by kernel_rfl))⟩
 f27:=⟨Tryz.f346.name,by decide,Tryz.func346.trans (congrArg some (by kernel_rfl))⟩
 f28:=⟨Tryz.f347.name,by decide,Tryz.func347.trans (congrArg some (by kernel_rfl))⟩
 f29:=⟨Tryz.f348.name,by decide,Tryz.func348.trans (congrArg some (by kernel_rfl))⟩
 f31:=Tryz.func293.trans (congrArg some (by kernel_rfl))
 f32:=Tryz.func294.trans (congrArg some (by kernel_rfl))
 f36:=⟨Tryz.f386.name,by decide,Tryz.func386.trans (congrArg some (by kernel_rfl))⟩
 f37:=⟨Tryz.f387.name,by decide,Tryz.func387.trans (congrArg some (by kernel_rfl))⟩
 f38:=⟨Tryz.f388.name,by decide,Tryz.func388.trans (congrArg some (by kernel_rfl))⟩
 f39:=⟨Tryz.f389.name,by decide,Tryz.func389.trans (congrArg some (by kernel_rfl))⟩
 f41:=⟨Tryz.f420.name,by decide,Tryz.func420.trans (congrArg some (by kernel_rfl))⟩
 t0:=Tryz.underlying0
 a0:=Tryz.isAgg0
 z0:=Tryz.sizeOf0
 v0:=Tryz.zeroValue0
 t3:=Tryz.underlying3
 a3:=Tryz.isAgg3
 z3:=Tryz.sizeOf3
 v3:=Tryz.zeroValue3
 t4:=Tryz.underlying4
 a4:=Tryz.isAgg4
 z4:=Tryz.sizeOf4
 v4:=Tryz.zeroValue4
 t5:=Tryz.underlying5
 a5:=Tryz.isAgg5
 z5:=Tryz.sizeOf5
 v5:=Tryz.zeroValue5
 t9:=Tryz.underlying9
 a9:=Tryz.isAgg9
 z9:=Tryz.sizeOf9
 v9:=Tryz.zeroValue9
 t26:=Tryz.underlying61
 a26:=Tryz.isAgg61
 z26:=Tryz.sizeOf61
 v26:=Tryz.zeroValue61
 t27:=Tryz.underlying61
 a27:=Tryz.isAgg61
 z27:=Tryz.sizeOf61
 v27:=Tryz.zeroValue61
 t29:=Tryz.underlying9
 a29:=Tryz.isAgg9
 z29:=Tryz.sizeOf9
 v29:=Tryz.zeroValue9
 t32:=Tryz.underlying211
 a32:=Tryz.isAgg211
 z32:=Tryz.sizeOf211
 v32:=Tryz.zeroValue211
 t35:=Tryz.underlying285
 a35:=Tryz.isAgg285
 z35:=Tryz.sizeOf285
 v35:=Tryz.zeroValue285
 t36:=Tryz.underlying286
 a36:=Tryz.isAgg286
 z36:=Tryz.sizeOf286
 v36:=Tryz.zeroValue286
 t41:=Tryz.underlying166
 a41:=Tryz.isAgg166
 z41:=Tryz.sizeOf166
 v41:=Tryz.zeroValue166
 t44:=Tryz.underlying274
 a44:=Tryz.isAgg274
 z44:=Tryz.sizeOf274
 v44:=Tryz.zeroValue274
 t46:=Tryz.underlying277
 a46:=Tryz.isAgg277
 z46:=Tryz.sizeOf277
 v46:=Tryz.zeroValue277
 t53:=Tryz.underlying360
 a53:=Tryz.isAgg360
 z53:=Tryz.sizeOf360
 v53:=Tryz.zeroValue360
 t57:=Tryz.underlying364
 a57:=Tryz.isAgg364
 z57:=Tryz.sizeOf364
 v57:=Tryz.zeroValue364
 t63:=Tryz.underlying417
 a63:=Tryz.isAgg417
 z63:=Tryz.sizeOf417
 v63:=Tryz.zeroValue417
 t64:=Tryz.underlying418
 a64:=Tryz.isAgg418
 z64:=Tryz.sizeOf418
 v64:=Tryz.zeroValue418 }
theorem sortsS (m:Nat):AnyZ.SortsIn Tryz.prog zH4 Fence.wide m:=
 ⟨fun blk off cap ss W hH hblk hsz=>callsIn_wide.2 (AnyM.slices_Sort_string sortSL blk off cap ss W hH hblk hsz),
  fun p cap W=>callsIn_wide.2 (AnyM.slices_Sort_string_none sortSL p cap W)⟩
end Go.Proofs.YtophoepbedlhjaaGreatDoor
namespace Go.Proofs.YtophoepbedlhjaaGreatDoor
open Go Go.RowKit Go.Maps Go.Sort Go.Shelf
set_option maxRecDepth 100000
theorem zN10 {R:Value→Option (DataW Unit × List MemPlace)} (B b nn:Nat) (D0:DataW Unit) (w:World) (hB:B < w.heap.size) (hm:w.cell? ⟨B,0,none⟩=some (.map (some b))) (hown:w.ownsMap Tryz.prog 9 R b nn D0) (hmax:Maps.size D0≤maxLen) (hbytes:Maps.size D0*16≤140737488355328) :
    Calls Tryz.prog 123 #[.func (.func 196) #[] #[.pointer (some ⟨B,0,none⟩)]] w fun e w'=>(∃(v:Value) (ss:List (List UInt8)),e = .returned v∧ss.Perm (strKeys D0) ∧
     w'.ownsRow w.heap.size 9 1 v ss.length ((ss.mergeSort (fun x y=>decide (x≤y))).map encStr)∧Below w.heap.size w w')∧w.drawn≤w'.drawn:=by
 have hseq:SeqGives Fence.wide 2 Tryz.prog 196 #[.pointer (some ⟨B,0,none⟩)] encStr (fun ss=>ss.Perm (strKeys D0)) (Maps.size D0) w:=
  AnyZ.keys_gives (ρ:=zE5) { keysSSL with } Fence.wide _ trivial rfl (by omega) B b nn D0 _ hB hm hown
 have cS:=AnyZ.sorted_in sortedSL Fence.wide 5 trivial trivial trivial trivial rfl (by omega) (sortsS _) (enters_of Tryz.func195 (by kernel_rfl) rfl) 196 #[.pointer (some ⟨B,0,none⟩)] trivial (enters_of Tryz.func196 (by kernel_rfl) rfl) _ _ hmax hbytes _ hseq
 refine zP3 (fun e w' ⟨v,ss,h,_⟩=>⟨v,h⟩) ?_
 refine(callsIn_wide.1 cS).mono ?_
 rintro e w' ⟨v,ss,rfl,h1,h2,_,h4⟩
 exact⟨v,ss,rfl,h1,h2,h4⟩
end Go.Proofs.YtophoepbedlhjaaGreatDoor
namespace Go.Proofs.YtophoepbedlhjaaGreatDoor
open Go Go.RowKit Go.Maps Go.Sort Go.Shelf Go.WideElems Go.WideMaps
set_option maxRecDepth 100000
theorem zH5 {H:Type} (x:Lit × DataW H):∀(l:List (Lit × DataW H)),(DataW.insert x l).Perm (x :: l)
 | []=>List.Perm.refl _
 | y :: r=>by
  unfold DataW.insert
  split
  ·exact List.Perm.refl _
  ·exact((zH5 x r).cons y).trans (List.Perm.swap x y r)
theorem zL1 {H:Type}:∀(l:List (Lit × DataW H)),(l.foldr DataW.insert []).Perm l
 | []=>List.Perm.refl _
 | x :: l=>(zH5 x _).trans ((zL1 l).cons x)
def rdN:Value→Option (DataW Unit × List MemPlace):=fun _=>some (.nil,[])
theorem zN15 {w:World} {b ck:Nat} {ms:Array MapEntry} {l:List (Nat × List UInt8 × List UInt8)} (hb:w.heap[b]?=some (.map ms ck)) (hms:ms.toList=l.map fun e=>(⟨.string (bst e.2.1),.string (bst e.2.2),e.1⟩:MapEntry)) (hok:MapOk l ck) (hl:l.length≤1000000) (hk:∀e∈l,e.2.1.length≤1000000) :
    ∃D0:DataW Unit,w.ownsMap Tryz.prog 9 rdN b ms.size D0∧Maps.size D0=l.length∧(strKeys D0).Perm (l.map (·.2.1)):=by
 have hrd:∀e∈l,Go.WideElems.rd Tryz.prog 9 rdN ⟨.string (bst e.2.1),.string (bst e.2.2),e.1⟩=some (.string e.2.1,.nil):=fun e he=>by
  have h1:keyOf Tryz.prog 9 (.string (bst e.2.1))=some (.string (bst e.2.1).data.toList):=keyOf_string_mk Tryz.underlying9 (by have:=hk e he;rw[zu1];exact Nat.le_trans this (by decide))
  have h2:=rd_mk (born:=e.1) h1 (show rdN (.string (bst e.2.2))=some (.nil,[]) from rfl)
  rw[h2]
 have hF:Fit Tryz.prog 9 rdN ms ck:=by
  refine⟨?_,⟨fun x hx=>?_, ?_, ?_⟩,fun x hx=>?_⟩
  ·have:=congrArg List.length hms
   rw[List.length_map,Array.length_toList] at this
   rw[this]
   exact Nat.le_trans hl (by decide)
  ·rw[hms] at hx
   obtain⟨e,he,rfl⟩:=List.mem_map.1 hx
   exact hok.hb e he
  ·rw[hms,List.map_map]
   exact hok.nb
  ·rw[hms,List.map_map]
   have h1:l.Pairwise fun a b=>a.2.1≠b.2.1:=List.pairwise_map.1 hok.nk
   refine List.pairwise_map.2 (h1.imp fun {a b} hne e=>hne ?_)
   have e2:Value.string (bst a.2.1)=Value.string (bst b.2.1):=e
   injection e2 with e2
   have:=congrArg (fun q:ByteArray=>q.data.toList) e2
   simpa using this
  ·rw[hms] at hx
   obtain⟨e,he,rfl⟩:=List.mem_map.1 hx
   exact⟨_,hrd e he⟩
 refine⟨_,⟨ms,ck,hb,hF,Nat.le_refl _,rfl⟩, ?_, ?_⟩
 ·rw[Maps.size_eq,(zL1 _).length_eq,List.length_map,hms,List.length_map]
 ·show (((ms.toList.map (Go.WideElems.rg Tryz.prog 9 rdN)).foldr DataW.insert []).map fun p=>strOf p.1).Perm _
  refine((zL1 _).map _).trans ?_
  rw[hms,List.map_map,List.map_map]
  refine List.Perm.of_eq (List.map_congr_left fun e he=>?_)
  show strOf (Go.WideElems.rg Tryz.prog 9 rdN ⟨.string (bst e.2.1),.string (bst e.2.2),e.1⟩).1=e.2.1
  rw[rg_of (hrd e he)]
  rfl
end Go.Proofs.YtophoepbedlhjaaGreatDoor
