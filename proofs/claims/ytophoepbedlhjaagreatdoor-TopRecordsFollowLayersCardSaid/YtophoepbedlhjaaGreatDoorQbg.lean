/- The program's Jobs and Filament, by value. -/
import Derived.Test.YtophoepbedlhjaaGreatDoorQbf
import Derived.Lib.ItoaLen
import Derived.Test.YtophoepbedlhjaaGreatDoorQat
set_option linter.unusedSimpArgs false
set_option linter.unusedVariables false
-- NEWM
namespace Go.Proofs.YtophoepbedlhjaaGreatDoor
open Go Go.RowKit
set_option maxRecDepth 100000
theorem zX8 {α β:Type} [DecidableEq α] {ck:Nat} {a:α} {b:β}:∀{l:List (Nat × α × β)} {e:Nat × α × β},e∈mset ck a b l→e∈l∨e.2.2=b
 | [],e,h=>by
  simp only[mset,List.mem_singleton] at h
  subst h
  exact .inr rfl
 | x :: l,e,h=>by
  simp only[mset] at h
  split at h
  ·rcases List.mem_cons.1 h with rfl|h
   ·exact .inr rfl
   ·exact .inl (List.mem_cons_of_mem _ h)
  ·rcases List.mem_cons.1 h with rfl|h
   ·exact .inl (by simp)
   ·rcases zX8 h with h|h
    ·exact .inl (List.mem_cons_of_mem _ h)
    ·exact .inr h
theorem zY8 {α β:Type} [DecidableEq α] {ck:Nat} {a:α} {b:β}:∀(l:List (Nat × α × β)),(mset ck a b l).length≤l.length+1
 | []=>by simp[mset]
 | x :: l=>by
  simp only[mset]
  split
  ·simp
  ·have:=zY8 (ck:=ck) (a:=a) (b:=b) l
   simp only[List.length_cons]
   omega
theorem zq6 {s:List UInt8} (h:keyB s=true):s.length≤40:=by
 cases s with
 | nil=>simp
 | cons b r=>
  rw[zV3] at h
  simp only[Bool.and_eq_true,decide_eq_true_eq] at h
  exact h.1.1
theorem ntS_sp {b:Bk} {x:Nt} {k:Nat} (hx:ntF x=0) (h1:b.sp.length≤k) (h2:∀e∈b.sp,e.2.2.length≤40):(ntS b x).sp.length≤k+1∧∀e∈(ntS b x).sp,e.2.2.length≤40:=by
 have h5:=(zS10 hx).2.2.1
 unfold ntS
 by_cases c1:x.kd=1
 ·rw[if_pos c1];exact⟨by simp only;omega,h2⟩
 rw[if_neg c1]
 by_cases c2:x.kd=2
 ·rw[if_pos c2];exact⟨by simp only;omega,h2⟩
 rw[if_neg c2]
 by_cases c3:x.kd=3
 ·rw[if_pos c3];exact⟨by simp only;omega,h2⟩
 rw[if_neg c3]
 by_cases c4:x.kd=4
 ·rw[if_pos c4];exact⟨by simp only;omega,h2⟩
 rw[if_neg c4]
 by_cases c5:x.kd=5
 ·rw[if_pos c5]
  refine⟨?_,fun e he=>?_⟩
  ·have:=zY8 (ck:=b.spk) (a:=x.pr) (b:=x.sp) b.sp
   simp only
   omega
  ·rcases zX8 he with he|he
   ·exact h2 e he
   ·rw[he];exact zq6 (h5 c5).1
 rw[if_neg c5]
 by_cases c6:x.kd=6
 ·rw[if_pos c6];exact⟨by simp only;omega,h2⟩
 rw[if_neg c6]
 exact⟨by omega,h2⟩
theorem bkK_sp {l:List Nt} (hl:∀x∈l,ntF x=0) (ix:List Int):∀k,(bkK l ix k).1.sp.length≤k∧∀e∈(bkK l ix k).1.sp,e.2.2.length≤40
 | 0=>by simp[bkK,bk0]
 | k+1=>by
  obtain⟨h1,h2⟩:=bkK_sp hl ix k
  rw[bkK]
  split
  ·split
   ·rename_i x hx
    unfold bkStep
    split
    ·exact⟨by simp only;omega,h2⟩
    ·exact ntS_sp (hl x (List.mem_of_getElem? hx)) h1 h2
   ·exact⟨by omega,h2⟩
  ·exact⟨by omega,h2⟩
theorem bksF_sp {l:List Nt} {at_:Int} (hl:l.length≤2000) (hs:∀x∈l,ntF x=0):(bksF l (cntP at_ l)).1.sp.length≤2000∧∀e∈(bksF l (cntP at_ l)).1.sp,e.2.2.length≤40:=by
 obtain⟨h1,h2⟩:=bkK_sp hs (cntP at_ l) (cntP at_ l).length
 have h3:=zu4 at_ l l.length (Nat.le_refl _)
 have h4:(cntP at_ l).length≤2000:=by unfold cntP;rw[List.length_reverse];omega
 exact⟨by unfold bksF;omega,h2⟩
end Go.Proofs.YtophoepbedlhjaaGreatDoor
-- NEWM
namespace Go.Proofs.YtophoepbedlhjaaGreatDoor
open Go Go.RowKit
set_option maxRecDepth 100000
abbrev kR (l:List (List UInt8)):List (List CV):=l.map fun s=>[T s]
def srtK (l:List (Nat × List UInt8 × List UInt8)):List (List UInt8):=(l.map (·.2.1)).mergeSort fun x y=>decide (x≤y)
theorem zO4 (l:List (Nat × List UInt8 × List UInt8)):(srtK l).length=l.length:=by
 unfold srtK
 rw[List.length_mergeSort,List.length_map]
def valP (l:List (Nat × List UInt8 × List UInt8)) (k:List UInt8):Pr:=(k,(mget l k).getD [])
def srtP (l:List (Nat × List UInt8 × List UInt8)):List Pr:=(srtK l).map (valP l)
theorem keys_v (l:List (Nat × List UInt8 × List UInt8)) (ck:Nat):ACallsX true Tryz.prog 124 [.mp 0] [mSS l ck] fun u H=>u = .f (.func 196) [.p 1 0 0]∧H = [mSS l ck,.box [.mp 0]]:=by
 refine ze1 true (N:=4) Tryz.func124 rfl rfl (by simp) fun E hE hP=>?_
 refine WA ?_
 refine WA ?_
 exact zI (us:=[.f (.func 196) [.p 1 0 0]]) [some 0,some 1] (fun _=>.f (.func 196) [.p 1 0 0]) (fun _=>[mSS l ck,.box [.mp 0]]) (.tmp rfl .nil) (by decide) (ZNK rfl) (fun _=>.fL (.cons (.p rfl) .nil)) ZCH (fun _=>⟨rfl,rfl⟩)
def SortedKeysOk:Prop:=∀(l:List (Nat × List UInt8 × List UInt8)) (ck:Nat),MapOk l ck→l.length≤1000000→(∀e∈l,e.2.1.length≤1000000)→ACallsX true Tryz.prog 123 [.f (.func 196) [.p 1 0 0]] [mSS l ck,.box [.mp 0]] fun u H=>∃c,l.length≤c∧u = .o 2 0 l.length c∧H = [mSS l ck,.box [.mp 0],.arr 9 1 c (kR (srtK l))]
set_option maxHeartbeats 1000000 in
theorem pairs_v (hSK:SortedKeysOk) (l:List (Nat × List UInt8 × List UInt8)) (ck:Nat) (hok:MapOk l ck) (hl:l.length≤1000000) (hk:∀e∈l,e.2.1.length≤1000000):ACallsX true Tryz.prog 55 [.mp 0] [mSS l ck] fun u H=>∃c cs,l.length≤c∧u = .o 3 0 l.length c∧H = [mSS l ck,.box [.mp 0],.arr 9 1 cs (kR (srtK l)),.arr 52 2 c (prRs (srtP l))]:=by
 refine ze1 true (N:=24) Tryz.func55 rfl rfl (by simp) fun E hE hP=>?_
 have hsl:=zO4 l
 have e0:(kR (srtK l)).length=l.length:=by simp[hsl]
 refine WA ?_
 refine WA ?_
 refine WR ?_
 refine zf rfl (zX1 [0] (fun _=>[mSS l ck]) false (fun _=>keys_v l ck) rfl .fn rfl (by decide) (by kernel_rfl) rfl ZCH (by decide) ZCH (by simp)) ?_
 rintro F1 H1 ⟨_,_,_,_,⟨rfl,rfl⟩,hF,hH⟩
 rw[zS] at hF;(refine NSU hF hH ?_;clear hF hH;rintro rfl rfl)
 refine zf rfl (zX1 [0,1] (fun _=>[mSS l ck,.box [.mp 0]]) false (fun _=>hSK l ck hok hl hk) rfl .fn rfl (by decide) (by kernel_rfl) rfl (fun _=>.cons (.fL (.cons (.p rfl) .nil)) .nil) (by decide) ZCH (by simp)) ?_
 rintro F1 H1 ⟨_,_,_,_,⟨c,hc,rfl,rfl⟩,hF,hH⟩
 rw[zS] at hF;(refine NSU hF hH ?_;clear hF hH;rintro rfl rfl)
 refine WE ?_
 refine zm (fun m F H=>∃(k co:Nat),m+k=l.length∧k≤co∧F = [(0,.mp 0),(3,.o 3 0 k co),(8,.o 2 0 l.length c),(9,.c (I l.length)),(10,.c (I k))]∧H = [mSS l ck,.box [.mp 0],.arr 9 1 c (kR (srtK l)),.arr 52 2 co (prRs ((srtP l).take k))]) ?_ ?_
 ·refine wkg [some 0,some 1,some 2,none] (fun _=>[(0,.mp 0),(3,.o 3 0 0 0),(8,.o 2 0 l.length c),(9,.c (I l.length)),(10,.c (I (0:Nat)))]) (fun _=>[mSS l ck,.box [.mp 0],.arr 9 1 c (kR (srtK l)),.arr 52 2 0 []]) (fun _=>?_)
  exact⟨_,0,0,Nat.add_zero _,Nat.le_refl _,rfl,rfl⟩
 rintro m F H ⟨k,co,hkm,hco,rfl,rfl⟩
 have e1:(prRs ((srtP l).take k)).length=k:=by simp[srtP,hsl];omega
 refine WA ?_
 refine zl rfl (fun hlt=>?_) (fun hge=>?_)
 ·obtain⟨s,hs⟩:∃z,(srtK l)[k]?=some z:=⟨_,List.getElem?_eq_getElem (by omega)⟩
  have hrow:(kR (srtK l))[k]?=some [T s]:=by rw[List.getElem?_map,hs];rfl
  obtain⟨q,hq⟩:∃q,(mget l s).getD []=q:=⟨_,rfl⟩
  have htk:(srtP l).take (k+1)=(srtP l).take k++[(s,q)]:=by
   rw[List.take_add_one,srtP,List.getElem?_map,hs]
   simp[valP,hq]
  refine WA ?_
  refine ZR ?_
  iterate 4 refine WX1 ?_
  refine ZA (zh5 (k:=s) (l:=l) hq rfl rfl rfl rfl) ?_
  refine WO ?_
  refine zf rfl (Zapp (news:=[[T s,T q]]) (j:=1) (hE:=KA (t:=39) rfl) (hsrc:=.own rfl rfl rfl) (hj:=rfl) (hle:=by omega) (hn:=e1.symm)) ?_
  rintro F1 H1 ⟨_,cc,hcc,hF,hH⟩
  (refine NSU hF hH ?_;clear hF hH;rintro rfl rfl)
  refine WE ?_
  refine WA ?_
  refine wkg [some 0,some 1,some 2,some 3] (fun _=>[(0,.mp 0),(3,.o 3 0 (k+1) cc),(8,.o 2 0 l.length c),(9,.c (I l.length)),(10,.c (I (k+1:Nat)))]) (fun _=>[mSS l ck,.box [.mp 0],.arr 9 1 c (kR (srtK l)),.arr 52 2 cc (prRs ((srtP l).take (k+1)))]) (fun _=>?_) (hH:=by rw[htk];simp only[prRs,prR,List.map_append,List.map_cons,List.map_nil];exact ZCH)
  exact⟨m - 1,by omega,k+1,cc,by omega,by omega,rfl,rfl⟩
 obtain rfl:k=l.length:=by omega
 have htk:(srtP l).take l.length=srtP l:=by rw[List.take_of_length_le];simp[srtP,hsl]
 rw[htk]
 refine WA ?_
 exact zT5 (k:=l.length) [some 0,some 1,some 2,some 3] (fun _=>[mSS l ck,.box [.mp 0],.arr 9 1 c (kR (srtK l)),.arr 52 2 co (prRs (srtP l))]) rfl rfl rfl rfl (b':=3) rfl (by decide) (ZNK rfl) ZCH (fun _=>⟨co,c,hco,rfl,rfl⟩)
end Go.Proofs.YtophoepbedlhjaaGreatDoor
-- NEWM
namespace Go.Proofs.YtophoepbedlhjaaGreatDoor
open Go Go.RowKit
set_option maxRecDepth 100000
theorem zi7 {α β:Type} [DecidableEq α] {ck:Nat} {a:α} {b:β}:∀{l:List (Nat × α × β)} {e:Nat × α × β},e∈mset ck a b l→(∃f∈l,e.2.1=f.2.1)∨e.2.1=a
 | [],e,h=>by
  simp only[mset,List.mem_singleton] at h
  subst h
  exact .inr rfl
 | x :: l,e,h=>by
  simp only[mset] at h
  split at h
  ·rename_i hx
   rcases List.mem_cons.1 h with rfl|h
   ·exact .inr (by simp)
   ·exact .inl ⟨e,List.mem_cons_of_mem _ h,rfl⟩
  ·rcases List.mem_cons.1 h with rfl|h
   ·exact .inl ⟨_,List.mem_cons_self,rfl⟩
   ·rcases zi7 h with⟨f,hf,h⟩|h
    ·exact .inl ⟨f,List.mem_cons_of_mem _ hf,h⟩
    ·exact .inr h
structure NmB (b:Bk):Prop where
 js:∀j∈b.js,j.pr.length≤40∧j.nm.length≤40
 sp:∀e∈b.sp,e.2.1.length≤40
theorem ntF_pr {x:Nt} (h:ntF x=0):(x.kd≠7→keyB x.pr=true)∧(x.kd=1→keyB x.jb=true):=by
 unfold ntF at h
 split at h
 ·cases h
 split at h
 ·cases h
 split at h
 ·cases h
 split at h
 ·cases h
 rename_i h4
 clear h
 simp only[not_or,not_and,Bool.not_eq_false] at h4
 exact⟨fun hk=>h4.1 (by simp[uP,hk]),fun hk=>h4.2.1 (by simp[uJ,hk])⟩
theorem zJ5 {α:Type} {f:α→α} {l:List α} {k:Nat} {x:α} (h:x∈l.modify k f):∃y∈l,x=y∨x=f y:=by
 obtain⟨i,hi⟩:=List.mem_iff_getElem?.1 h
 rw[List.getElem?_modify] at hi
 cases hy:l[i]? with
 | none=>rw[hy] at hi;simp at hi
 | some y=>
  rw[hy] at hi
  refine⟨y,List.mem_of_getElem? hy, ?_⟩
  by_cases hk:k=i
  ·simp[hk] at hi
   exact .inr hi.symm
  ·simp[hk] at hi
   exact .inl hi.symm
theorem layJ_nm {js:List Jb} {q:List UInt8} {t:Int} (h:∀j∈js,j.pr.length≤40∧j.nm.length≤40):∀j∈layJ js q t,j.pr.length≤40∧j.nm.length≤40:=fun j hj=>by
 unfold layJ at hj
 split at hj
 ·obtain⟨y,hy,rfl|rfl⟩:=zJ5 hj
  ·exact h _ hy
  ·exact h y hy
 ·exact h j hj
theorem zJ8 {js:List Jb} {q:List UInt8} {s t:Int} (h:∀j∈js,j.pr.length≤40∧j.nm.length≤40):∀j∈stopJ js q s t,j.pr.length≤40∧j.nm.length≤40:=fun j hj=>by
 unfold stopJ at hj
 split at hj
 ·obtain⟨y,hy,rfl|rfl⟩:=zJ5 hj
  ·exact h _ hy
  ·exact h y hy
 ·exact h j hj
theorem NmB.next {b:Bk} {x:Nt} (hx:ntF x=0) (h:NmB b):NmB (ntS b x):=by
 obtain⟨hp,hj⟩:=ntF_pr hx
 unfold ntS
 by_cases c1:x.kd=1
 ·rw[if_pos c1]
  refine⟨fun j hjj=>?_,h.sp⟩
  rcases List.mem_append.1 hjj with hjj|hjj
  ·exact h.js j hjj
  ·rw[List.mem_singleton] at hjj
   subst hjj
   exact⟨zq6 (hp (by omega)),zq6 (hj c1)⟩
 rw[if_neg c1]
 by_cases c2:x.kd=2
 ·rw[if_pos c2];exact⟨layJ_nm h.js,h.sp⟩
 rw[if_neg c2]
 by_cases c3:x.kd=3
 ·rw[if_pos c3];exact⟨zJ8 h.js,h.sp⟩
 rw[if_neg c3]
 by_cases c4:x.kd=4
 ·rw[if_pos c4];exact⟨zJ8 h.js,h.sp⟩
 rw[if_neg c4]
 by_cases c5:x.kd=5
 ·rw[if_pos c5]
  refine⟨h.js,fun e he=>?_⟩
  rcases zi7 he with⟨f,hf,he⟩|he
  ·rw[he];exact h.sp f hf
  ·rw[he];exact zq6 (hp (by omega))
 rw[if_neg c5]
 by_cases c6:x.kd=6
 ·rw[if_pos c6];exact⟨h.js,h.sp⟩
 rw[if_neg c6]
 exact h
theorem bkK_nm {l:List Nt} (hl:∀x∈l,ntF x=0) (ix:List Int):∀k,NmB (bkK l ix k).1
 | 0=>⟨fun j h=>(by cases h),fun e h=>(by cases h)⟩
 | k+1=>by
  have h:=bkK_nm hl ix k
  rw[bkK]
  split
  ·split
   ·rename_i x hx
    unfold bkStep
    split
    ·exact h
    ·exact h.next (hl x (List.mem_of_getElem? hx))
   ·exact h
  ·exact h
theorem bksF_nm {l:List Nt} {at_:Int} (hs:∀x∈l,ntF x=0):NmB (bksF l (cntP at_ l)).1:=bkK_nm hs _ _
theorem zW7 {n:Nat} {L:List Nat} (h:L.Nodup) (hs:∀x∈L,x < n):L.length≤n:=by
 have:L.Perm ((List.range n).filter fun k=>L.contains k):=(List.perm_ext_iff_of_nodup h (List.nodup_range.filter _)).2 fun a=>by
  rw[List.mem_filter,List.mem_range]
  simp only[List.contains_iff_mem]
  exact⟨fun ha=>⟨hs a ha,ha⟩,fun ha=>ha.2⟩
 have h2:=this.length_eq
 have h3:=List.length_filter_le (fun k=>L.contains k) (List.range n)
 rw[List.length_range] at h3
 omega
theorem zy3 {α β:Type} [DecidableEq α]:∀{l:List (Nat × α × β)} {e:Nat × α × β},(l.map (·.2.1)).Nodup→e∈l→mget l e.2.1=some e.2.2
 | [],e,_,h=>by cases h
 | x :: l,e,hn,h=>by
  rw[List.map_cons,List.nodup_cons] at hn
  simp only[mget]
  rcases List.mem_cons.1 h with rfl|h
  ·rw[if_pos rfl]
  ·rw[if_neg fun e2=>hn.1 (by rw[←e2];exact List.mem_map_of_mem (f:=(·.2.1)) h)]
   exact zy3 hn.2 h
theorem RunOk.key {js:List Jb} {rl:List (Nat × List UInt8 × List UInt8)} (h:RunOk js rl) {ck:Nat} (hm:MapOk rl ck) {e:Nat × List UInt8 × List UInt8} (he:e∈rl):∃k j,runI js e.2.1=some k∧js[k]?=some j∧j.pr=e.2.1∧j.st=0∧j.nm=e.2.2:=by
 have h1:=zy3 hm.nk he
 rw[h] at h1
 cases hr:runI js e.2.1 with
 | none=>rw[hr] at h1;cases h1
 | some k=>
  obtain⟨j,hj,h2,h3⟩:=zG1 hr
  rw[hr] at h1
  simp only[Option.bind_some] at h1
  rw[hj] at h1
  simp only[Option.map_some,Option.some.injEq] at h1
  exact⟨k,j,rfl,hj,h2,h3,h1⟩
theorem RunOk.len {js:List Jb} {rl:List (Nat × List UInt8 × List UInt8)} (h:RunOk js rl) {ck:Nat} (hm:MapOk rl ck):rl.length≤js.length:=by
 have hn:(rl.map fun e=>(runI js e.2.1).getD 0).Nodup:=by
  have h1:rl.Pairwise fun a b=>a.2.1≠b.2.1:=List.pairwise_map.1 hm.nk
  refine List.pairwise_map.2 (List.Pairwise.imp_of_mem (fun {a b} ha hb hne e=>?_) h1)
  obtain⟨k,j,g1,g2,g3,_⟩:=h.key hm ha
  obtain⟨k2,j2,q1,q2,q3,_⟩:=h.key hm hb
  rw[g1,q1] at e
  simp only[Option.getD_some] at e
  subst e
  rw[g2] at q2
  injection q2 with q2
  subst q2
  exact hne (g3.symm.trans q3)
 have:=zW7 (n:=js.length) hn fun x hx=>by
  obtain⟨e,he,rfl⟩:=List.mem_map.1 hx
  obtain⟨k,j,g1,g2,_⟩:=h.key hm he
  rw[g1]
  exact(List.getElem?_eq_some_iff.1 g2).1
 rwa [List.length_map] at this
end Go.Proofs.YtophoepbedlhjaaGreatDoor
namespace Go.Proofs.YtophoepbedlhjaaGreatDoor
open Go Go.RowKit
theorem zR10 {l:List (Nat × List UInt8 × List UInt8)} (hn:(l.map (·.2.1)).Nodup):(l.map (·.2.1)).map (valP l)=l.map (·.2):=by
 rw[List.map_map]
 refine List.map_congr_left fun e he=>?_
 show valP l e.2.1=e.2
 unfold valP
 rw[zy3 hn he]
 rfl
theorem zs10 {l:List (Nat × List UInt8 × List UInt8)} (hn:(l.map (·.2.1)).Nodup):(srtP l).Perm (l.map (·.2)):=by
 rw[←zR10 hn]
 exact(List.mergeSort_perm _ _).map _
end Go.Proofs.YtophoepbedlhjaaGreatDoor
-- NEWM
namespace Go.Proofs.YtophoepbedlhjaaGreatDoor
open Go Go.RowKit
set_option maxRecDepth 100000
end Go.Proofs.YtophoepbedlhjaaGreatDoor
-- NEWM
namespace Go.Proofs.YtophoepbedlhjaaGreatDoor
open Go Go.RowKit
set_option maxRecDepth 100000
theorem bkK_ok {l:List Nt} (hl:∀x∈l,ntF x=0) (ix:List Int):∀k,BkOk (bkK l ix k).1 k
 | 0=>.zero
 | k+1=>by
  have h:=bkK_ok hl ix k
  rw[bkK]
  split
  ·split
   ·rename_i x hx
    unfold bkStep
    split
    ·exact h.more
    ·rename_i hr
     exact h.next (hl x (List.mem_of_getElem? hx)) (Decidable.not_not.1 hr)
   ·exact h.more
  ·exact h.more
end Go.Proofs.YtophoepbedlhjaaGreatDoor
namespace Go.Proofs.YtophoepbedlhjaaGreatDoor
open Go Go.RowKit
theorem ntF_at {x:Nt} (h:ntF x=0):0≤x.at_∧x.at_≤345686399999:=by
 unfold ntF at h
 split at h
 ·cases h
 split at h
 ·cases h
 rename_i h2
 clear h
 simp only[not_or,moB,Bool.not_eq_false',Bool.not_eq_true,outB,Bool.or_eq_false_iff,decide_eq_false_iff_not] at h2
 omega
theorem zu1 {α:Type} {f:α→α} {l:List α} {k:Nat} {x:α} (h:x∈l.modify k f):x∈l∨∃y,l[k]?=some y∧x=f y:=by
 obtain⟨i,hi⟩:=List.mem_iff_getElem?.1 h
 rw[List.getElem?_modify] at hi
 cases hy:l[i]? with
 | none=>rw[hy] at hi;simp at hi
 | some y=>
  rw[hy] at hi
  by_cases hk:k=i
  ·subst hk
   simp at hi
   exact .inr ⟨y,hy,hi.symm⟩
  ·simp[hk] at hi
   exact .inl (hi▸List.mem_of_getElem? hy)
structure JkOk (js:List Jb) (t:Int):Prop where
 key:∀j∈js,keyB j.nm=true
 fin:∀j∈js,j.st=1→(j.ly.length:Int)=j.all
 tim:∀j∈js,0≤j.beg∧j.beg≤t∧∀m∈j.ly,j.beg≤m∧m≤t
theorem JkOk.nil {t:Int}:JkOk [] t:=⟨fun j h=>(by cases h),fun j h=>(by cases h),fun j h=>(by cases h)⟩
theorem JkOk.mono {js:List Jb} {t u:Int} (h:JkOk js t) (hu:t≤u):JkOk js u:=⟨h.key,h.fin,fun j hj=>⟨(h.tim j hj).1,by have:=(h.tim j hj).2.1;omega,fun m hm=>⟨((h.tim j hj).2.2 m hm).1,by have:=((h.tim j hj).2.2 m hm).2;omega⟩⟩⟩
theorem JkOk.lay {js:List Jb} {t:Int} (h:JkOk js t) (p:List UInt8):JkOk (layJ js p t) t:=by
 unfold layJ
 split
 ·rename_i k hk
  obtain⟨j0,hj0,_,hs0⟩:=zG1 hk
  refine⟨fun j hj=>?_,fun j hj hs=>?_,fun j hj=>?_⟩
  ·rcases zu1 hj with hj|⟨y,hy,rfl⟩
   ·exact h.key j hj
   ·exact h.key y (List.mem_of_getElem? hy)
  ·rcases zu1 hj with hj|⟨y,hy,rfl⟩
   ·exact h.fin j hj hs
   ·rw[hj0] at hy
    injection hy with hy
    subst hy
    rw[hs0] at hs
    cases hs
  ·rcases zu1 hj with hj|⟨y,hy,rfl⟩
   ·exact h.tim j hj
   ·have h1:=h.tim y (List.mem_of_getElem? hy)
    refine⟨h1.1,h1.2.1,fun m hm=>?_⟩
    rcases List.mem_append.1 hm with hm|hm
    ·exact h1.2.2 m hm
    ·rw[List.mem_singleton] at hm
     subst hm
     exact⟨h1.2.1,Int.le_refl _⟩
 ·exact h
theorem JkOk.stop {js:List Jb} {t s u:Int} {p:List UInt8} (h:JkOk js t) (hs:s=1→∀k j,runI js p=some k→js[k]?=some j→(j.ly.length:Int)=j.all):JkOk (stopJ js p s u) t:=by
 unfold stopJ
 split
 ·rename_i k hk
  refine⟨fun j hj=>?_,fun j hj hs1=>?_,fun j hj=>?_⟩
  ·rcases zu1 hj with hj|⟨y,hy,rfl⟩
   ·exact h.key j hj
   ·exact h.key y (List.mem_of_getElem? hy)
  ·rcases zu1 hj with hj|⟨y,hy,rfl⟩
   ·exact h.fin j hj hs1
   ·exact hs hs1 k y hk hy
  ·rcases zu1 hj with hj|⟨y,hy,rfl⟩
   ·exact h.tim j hj
   ·exact h.tim y (List.mem_of_getElem? hy)
 ·exact h
theorem JkOk.next {b:Bk} {x:Nt} (h:JkOk b.js x.at_) (hJ:JsOk b.js) (hx:ntF x=0) (hr:rfE b x=0):JkOk (ntS b x).js x.at_:=by
 have hat:=ntF_at hx
 unfold ntS
 unfold rfE at hr
 by_cases h1:x.kd=1
 ·rw[if_pos h1]
  have hk:=(ntF_pr hx).2 h1
  refine⟨fun j hj=>?_,fun j hj hs=>?_,fun j hj=>?_⟩
  ·rcases List.mem_append.1 hj with hj|hj
   ·exact h.key j hj
   ·rw[List.mem_singleton] at hj;subst hj;exact hk
  ·rcases List.mem_append.1 hj with hj|hj
   ·exact h.fin j hj hs
   ·rw[List.mem_singleton] at hj;subst hj;cases hs
  ·rcases List.mem_append.1 hj with hj|hj
   ·exact h.tim j hj
   ·rw[List.mem_singleton] at hj;subst hj;exact⟨hat.1,Int.le_refl _,fun m hm=>(by cases hm)⟩
 rw[if_neg h1] at hr ⊢
 by_cases h2:x.kd=2
 ·rw[if_pos h2];exact h.lay _
 rw[if_neg h2] at hr ⊢
 by_cases h3:x.kd=3
 ·rw[if_pos h3] at hr ⊢
  refine h.stop fun _ k j hk hj=>?_
  rw[zx10 hk hj] at hr
  simp only at hr
  have h4:=(hJ.all j (List.mem_of_getElem? hj)).1
  split at hr
  ·cases hr
  ·omega
 rw[if_neg h3] at hr ⊢
 by_cases h4:x.kd=4
 ·rw[if_pos h4];exact h.stop fun h=>(by cases h)
 rw[if_neg h4]
 by_cases h5:x.kd=5
 ·rw[if_pos h5];exact h
 rw[if_neg h5]
 by_cases h6:x.kd=6
 ·rw[if_pos h6];exact h
 rw[if_neg h6];exact h
def IxOrd (l:List Nt) (ix:List Int):Prop:=∀(p q:Nat) (i j:Int) (x y:Nt),p≤q→ix[p]?=some i→ix[q]?=some j→l[i.toNat]?=some x→l[j.toNat]?=some y→x.at_≤y.at_
theorem zF11 {l:List Nt} (hl:∀x∈l,ntF x=0) {ix:List Int} (ho:IxOrd l ix):∀(k:Nat) (t:Int),(∀(q:Nat) (i:Int) (x:Nt),q < k→ix[q]?=some i→l[i.toNat]?=some x→x.at_≤t)→JkOk (bkK l ix k).1.js t
 | 0,t,_=>.nil
 | k+1,t,h=>by
  have h0:JkOk (bkK l ix k).1.js t:=zF11 hl ho k t fun q i x hq=>h q i x (by omega)
  rw[bkK]
  split
  ·rename_i i hi
   split
   ·rename_i x hx
    have h1:JkOk (bkK l ix k).1.js x.at_:=zF11 hl ho k x.at_ fun q i2 x2 hq hi2 hx2=>ho q k i2 i x2 x (by omega) hi2 hi hx2 hx
    unfold bkStep
    split
    ·exact h0
    ·rename_i hr
     exact(h1.next (bkK_ok hl ix k).js (hl x (List.mem_of_getElem? hx)) (Decidable.not_not.1 hr)).mono (h k i x (by omega) hi hx)
   ·exact h0
  ·exact h0
theorem ord_le {l:List Nt} (hs:∀i x y,l[i]?=some x→l[i+1]?=some y→x.at_≤y.at_):∀(d i:Nat) (x y:Nt),l[i]?=some x→l[i+d]?=some y→x.at_≤y.at_
 | 0,i,x,y,hx,hy=>by rw[Nat.add_zero,hx] at hy;injection hy with hy;rw[hy];exact Int.le_refl _
 | d+1,i,x,y,hx,hy=>by
  have hlt:=(List.getElem?_eq_some_iff.1 hy).1
  have hz:l[i+d]?=some (l[i+d]'(by omega)):=List.getElem?_eq_getElem _
  have h1:=ord_le hs d i x _ hx hz
  have h2:=hs (i+d) _ y hz hy
  omega
theorem cnt_ord {l:List Nt} (at_:Int) (h:chkN l=0):IxOrd l (cntP at_ l):=fun p q i j x y hpq hi hj hx hy=>by
 rw[zw4 h] at hi hj
 rw[List.getElem?_map] at hi hj
 have hp:(List.filter (fun i=>cR at_ (l.drop i)) (List.range l.length)).Pairwise (· < ·):=List.pairwise_lt_range.filter _
 cases hi':(List.filter (fun i=>cR at_ (l.drop i)) (List.range l.length))[p]? with
 | none=>rw[hi'] at hi;cases hi
 | some i'=>
  cases hj':(List.filter (fun i=>cR at_ (l.drop i)) (List.range l.length))[q]? with
  | none=>rw[hj'] at hj;cases hj
  | some j'=>
   rw[hi'] at hi
   rw[hj'] at hj
   simp only[Option.map_some,Option.some.injEq] at hi hj
   subst hi;subst hj
   have hx':l[i']?=some x:=hx
   have hy':l[j']?=some y:=hy
   have hle:i'≤j':=by
    rcases Nat.lt_or_ge p q with hlt|hge
    ·obtain⟨a1,a2⟩:=List.getElem?_eq_some_iff.1 hi'
     obtain⟨b1,b2⟩:=List.getElem?_eq_some_iff.1 hj'
     have:=List.pairwise_iff_getElem.1 hp p q a1 b1 hlt
     rw[a2,b2] at this
     omega
    ·have:p=q:=by omega
     subst this
     rw[hi'] at hj'
     injection hj' with hj'
     omega
   refine ord_le (zm9 h) (j' - i') i' x y hx' ?_
   rw[Nat.add_sub_cancel' hle]
   exact hy'
theorem bksF_jk {l:List Nt} (at_:Int) (h:chkN l=0):JkOk (bksF l (cntP at_ l)).1.js 345686399999:=
 zF11 (zs2 h).2 (cnt_ord at_ h) _ _ fun q i x _ _ hx=>(ntF_at ((zs2 h).2 x (List.mem_of_getElem? hx))).2
end Go.Proofs.YtophoepbedlhjaaGreatDoor
-- NEWM
namespace Go.Proofs.YtophoepbedlhjaaGreatDoor
open Go Go.RowKit
set_option maxRecDepth 100000
theorem zM9 {β:Type} {m0:List (Nat × List UInt8 × β)} {k:List UInt8} {v:β} (h:MapOk m0 m0.length) (hk:k∉m0.map (·.2.1)):mset m0.length k v m0=m0++[(m0.length,k,v)]∧mclk m0.length k m0=m0.length+1∧MapOk (m0++[(m0.length,k,v)]) (m0.length+1):=by
 have hn:=mget_none.2 hk
 have h1:mset m0.length k v m0=m0++[(m0.length,k,v)]:=zJ2 hn
 have h2:mclk m0.length k m0=m0.length+1:=by rw[mclk,hn];rfl
 have h3:=h.set k v
 rw[h1,h2] at h3
 exact⟨h1,h2,h3⟩
set_option maxHeartbeats 2000000 in
theorem zb11 (hSK:SortedKeysOk) (v:Value) (l:List Nt) (at_:Int) (hl:l.length≤1000000) (hs:∀x∈l,NtS x):ACalls Tryz.prog 10 [.c (.r v (noRs l)),.c (I at_)] [] fun u H=>∃(r:List Pr) (co:Nat),((askF l at_≠0∧r = [])∨(askF l at_=0∧∃m0 ck,MapOk m0 ck∧(m0.map (·.2)).Perm ((bksF l (cntP at_ l)).1.js.filterMap stPr)∧r=srtP m0))∧r.length≤2000∧r.length≤co∧u = .t [.o 0 0 r.length co,.c (I (askF l at_))]∧H = [.arr 52 2 co (prRs r)]:=by
 by_cases h0:askF l at_=0
 ·have hjl:=bksF_js (at_:=at_) (zs2 (zt2 h0)).1
  have hnm:=bksF_nm (at_:=at_) (zs2 (zt2 h0)).2
  have hspl:=bksF_sp (at_:=at_) (zs2 (zt2 h0)).1 (zs2 (zt2 h0)).2
  have hpx:PoolIx 8:=⟨trivial⟩
  rw[h0]
  refine zb (N:=39) Tryz.func10 rfl rfl (by simp) fun E hE=>?_
  refine WA ?_
  refine WR ?_
  refine zf rfl (efk (c:=fun _=>zy4 v l at_ hl hs h0)) ?_
  rintro _ _ ⟨_,_,_,⟨rfl,b,R1,R2,bl,rl,rk,c1,c2,hbf,hB,hbl,hrl,hrm,h1l,h2l,hc1,hc2,rfl⟩,hF,hH⟩
  (refine NST hF hH ?_;clear hF hH;rintro rfl rfl)
  refine WE ?_
  refine WA ?_
  refine za rfl ?_
  refine ZZ ?_
  rw[hbf] at hjl hnm hspl
  simp only at hjl hnm hspl
  have hJ:=hB.js
  have hok:MapOk (jlF 0 b.js bl) b.js.length:=jlF_ok hJ hbl
  have hjlen:(jlF 0 b.js bl).length=b.js.length:=by have:=congrArg List.length (zm4 (i:=0) hbl);rw[List.length_map,List.length_range'] at this;exact this
  refine ZR ?_
  refine zf rfl (zW1 rfl rfl (by decide)) ?_
  rintro _ _ ⟨rfl,rfl⟩
  refine WE ?_
  refine ZR ?_
  iterate 4 refine WX1 ?_
  refine zf rfl (zi9 (ke:=encSt) (ve:=encPt) (l:=jlF 0 b.js bl) (ck:=b.js.length) rfl rfl (by decide) Tryz.underlying111 rfl rfl) ?_
  rintro _ _ ⟨rfl,rfl⟩
  refine WE ?_
  refine zm (fun m F H=>∃(seen:List Nat) (m0:List (Nat × List UInt8 × List UInt8)),unsG (jlF 0 b.js bl) seen=m∧m+seen.length≤b.js.length∧seen.Nodup∧(∀k∈seen,k < b.js.length)∧m0.map (·.2)=fmJ stPr b.js seen∧MapOk m0 m0.length∧F = [(8,.mp 9),(25,.p 10 0 0)]∧H = [.box [.mp 1,.mp 2,.mp 3,.mp 4,.mp 5,.o 6 0 (R1).length c1,.o 7 0 (R2).length c2],mSP (jlF 0 b.js bl) b.js.length,mSS rl rk,mSS b.sp b.spk,mSI b.lf b.lfk,mSI b.us b.usk,.arr 3 1 c1 (nR (R1)),.arr 31 1 c2 (nR (R2)),.pool (plF jbP b.js bl),mSS m0 m0.length,.itr 1 b.js.length seen b.js.length]) ?_ ?_
  ·refine wkg [some 0,some 1,some 2,some 3,some 4,some 5,some 6,some 7,some 8,some 9,some 10] (fun _=>[(8,.mp 9),(25,.p 10 0 0)]) (fun _=>[.box [.mp 1,.mp 2,.mp 3,.mp 4,.mp 5,.o 6 0 (R1).length c1,.o 7 0 (R2).length c2],mSP (jlF 0 b.js bl) b.js.length,mSS rl rk,mSS b.sp b.spk,mSI b.lf b.lfk,mSI b.us b.usk,.arr 3 1 c1 (nR (R1)),.arr 31 1 c2 (nR (R2)),.pool (plF jbP b.js bl),mSS [] 0,.itr 1 b.js.length [] b.js.length]) (fun _=>?_)
   exact⟨_,[],[],rfl,by have:=unsG_le (jlF 0 b.js bl) [];rw[hjlen] at this;exact this,List.nodup_nil,fun k h=>(by cases h),rfl,.nil,rfl,rfl⟩
  rintro m F H ⟨seen,m0,hm,hml,hnd,hsl,hout,hm0,rfl,rfl⟩
  have hol:m0.length≤2000:=by have h1:=congrArg List.length hout;rw[List.length_map] at h1;have:=fmJ_len stPr b.js seen;omega
  refine ZR ?_
  refine zf rfl (zp11 (ke:=encSt) (ve:=encPt) (l:=jlF 0 b.js bl) rfl rfl (by decide) rfl rfl rfl hok.hb (Nat.le_refl _)) ?_
  rintro _ _ (⟨⟨eb,ek,es⟩,he,hne,rfl,rfl⟩|⟨hall,rfl,rfl⟩)
  all_goals (refine WE ?_)
  ·refine zd rfl ?_
   obtain⟨k,j,b0,hj,hb,heq⟩:=zb8 he
   injection heq with q1 q2
   injection q2 with q2 q3
   subst q1;subst q2;subst q3
   have hlt:unsG (jlF 0 b.js bl) (seen++[0+k]) < unsG (jlF 0 b.js bl) seen:=zk10 he hne
   have hin:InPool k b0 (plF jbP b.js bl) [T (stW j.st),I j.ly.length,I j.all,I j.beg,I (j.ly.getLast?.getD 0),I j.en]:=⟨zj5 hj hb⟩
   have hkm:j.nm∉m0.map (·.2.1):=fun h=>by
    obtain⟨e,hem,hen⟩:=List.mem_map.1 h
    have h2:e.2∈m0.map (·.2):=List.mem_map_of_mem (f:=fun e:Nat × List UInt8 × List UInt8=>e.2) hem
    rw[hout] at h2
    obtain⟨q,hq,hq2⟩:=List.mem_filterMap.1 h2
    cases hjq:b.js[q]? with
    | none=>rw[hjq] at hq2;cases hq2
    | some j2=>
     rw[hjq] at hq2
     simp only[Option.bind_some,stPr,Option.some.injEq] at hq2
     have hn2:j2.nm=j.nm:=by rw[←hen,←hq2]
     have:=hJ.nm q k j2 j hjq hj hn2
     subst this
     exact hne (by simpa using hq)
   obtain⟨g1,g2,g3⟩:=zM9 (v:=stW j.st) hm0 hkm
   have hnd2:(seen++[0+k]).Nodup:=List.nodup_append.2 ⟨hnd,by simp,fun a ha b hb h=>by simp at hb;subst hb;subst h;exact hne (by simpa using ha)⟩
   have hsl2:∀q∈seen++[0+k],q < b.js.length:=fun q hq=>by
    rcases List.mem_append.1 hq with hq|hq
    ·exact hsl q hq
    ·rw[List.mem_singleton,Nat.zero_add] at hq;subst hq;exact(List.getElem?_eq_some_iff.1 hj).1
   have hout2:(m0++[(m0.length,j.nm,stW j.st)]).map (·.2)=fmJ stPr b.js (seen++[0+k]):=by rw[fmJ_some (f:=stPr) hj rfl,List.map_append,hout];rfl
   refine ZR ?_
   refine ZA (zQ8 (ke:=encSt) (ve:=encPt) (e:=(0+k,j.nm,ptrV b0)) rfl rfl rfl rfl he hok.nb) ?_
   refine WE ?_
   refine ZR ?_
   iterate 6 refine WX1 ?_
   refine zf rfl (zy6 (k:=j.nm) (l:=m0) (z:=(stW j.st)) rfl rfl rfl rfl rfl rfl) ?_
   rintro _ _ ⟨rfl,rfl⟩
   refine WE ?_
   rw[g1,g2]
   refine wkg [some 0,some 1,some 2,some 3,some 4,some 5,some 6,some 7,some 8,some 9,some 10] (fun _=>[(8,.mp 9),(25,.p 10 0 0)]) (fun _=>[.box [.mp 1,.mp 2,.mp 3,.mp 4,.mp 5,.o 6 0 (R1).length c1,.o 7 0 (R2).length c2],mSP (jlF 0 b.js bl) b.js.length,mSS rl rk,mSS b.sp b.spk,mSI b.lf b.lfk,mSI b.us b.usk,.arr 3 1 c1 (nR (R1)),.arr 31 1 c2 (nR (R2)),.pool (plF jbP b.js bl),mSS (m0++[(m0.length,j.nm,stW j.st)]) (m0++[(m0.length,j.nm,stW j.st)]).length,.itr 1 b.js.length (seen++[0+k]) b.js.length]) (fun _=>?_) (hH:=by rw[List.length_append,List.length_singleton];exact ZCH)
   exact⟨_,by rw[←hm];exact hlt,seen++[0+k],_,rfl,by rw[List.length_append,List.length_singleton];omega,hnd2,hsl2,hout2,by rw[List.length_append,List.length_singleton];exact g3,rfl,rfl⟩
  ·refine za rfl ?_
   have hp:(m0.map (·.2)).Perm (b.js.filterMap stPr):=by
    rw[hout]
    refine fmJ_all hnd hsl fun k hk=>?_
    obtain⟨b0,hb0⟩:∃b0,bl[k]?=some b0:=⟨_,List.getElem?_eq_getElem (by rw[hbl];exact hk)⟩
    simpa using hall _ (jlF_in (i:=0) (List.getElem?_eq_getElem hk) hb0)
   have hkl:∀e∈m0,e.2.1.length≤1000000:=fun e he=>by
    have h2:e.2∈m0.map (·.2):=List.mem_map_of_mem (f:=(·.2)) he
    obtain⟨j,hj,hj2⟩:=List.mem_filterMap.1 (hp.subset h2)
    simp only[stPr,Option.some.injEq] at hj2
    have:=(hnm.js j hj).2
    rw[←hj2]
    simp only
    omega
   have hsl:(srtP m0).length=m0.length:=by simp[srtP,zO4]
   refine WR ?_
   refine zf rfl (zX1 [9] (fun _=>[mSS m0 m0.length]) false (fun _=>pairs_v hSK m0 m0.length hm0 (by omega) hkl) rfl .fn rfl (by decide) (by kernel_rfl) rfl ZCH (by decide) ZCH (by simp)) ?_
   rintro F1 H1 ⟨_,_,_,_,⟨co,cs,hco,rfl,rfl⟩,hF,hH⟩
   rw[zS] at hF;(refine NSU hF hH ?_;clear hF hH;rintro rfl rfl)
   refine WE ?_
   exact zI (us:=[.o 13 0 m0.length co,.c (I 0)]) [some 13] (fun _=>.t [.o 0 0 m0.length co,.c (I 0)]) (fun _=>[.arr 52 2 co (prRs (srtP m0))]) (.tmp rfl (.tmp rfl .nil)) (by decide) (ZNK rfl) (fun _=>.tL (.cons (.o rfl rfl) (.cons (.c rfl) .nil))) ZCH (fun _=>⟨srtP m0,co,.inr ⟨rfl,m0,m0.length,hm0,by rw[hbf];exact hp,rfl⟩,by omega,by omega,by rw[hsl],rfl⟩)
 ·refine zb (N:=39) Tryz.func10 rfl rfl (by simp) fun E hE=>?_
  refine WA ?_
  refine WR ?_
  refine zf rfl (efk (c:=fun _=>zz4 v l at_ hl hs h0)) ?_
  rintro _ _ ⟨_,_,_,⟨rfl,rfl⟩,hF,hH⟩
  (refine NST hF hH ?_;clear hF hH;rintro rfl rfl)
  refine WE ?_
  generalize askF l at_=e at h0 ⊢
  refine WA ?_
  refine zd rfl ?_
  refine WA ?_
  exact zI (us:=[.c (.r (.slice none 0 0) []),.c (I e)]) [none] (fun _=>.t [.o 0 0 0 0,.c (I e)]) (fun _=>[.arr 52 2 0 []]) (.tmp rfl (.tmp rfl .nil)) (by decide) (ZNK rfl) (fun _=>.tL (.cons (.nil rfl) (.cons (.c rfl) .nil))) ZCH (fun _=>⟨[],0,.inl ⟨h0,rfl⟩,Nat.zero_le _,Nat.le_refl _,rfl,rfl⟩)
end Go.Proofs.YtophoepbedlhjaaGreatDoor
