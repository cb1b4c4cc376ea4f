/- Books of jobs, by value: inUse, refusal, note. -/
import Derived.Test.YtophoepbedlhjaaGreatDoorQay
import Derived.Test.YtophoepbedlhjaaGreatDoorQat
set_option linter.unusedSimpArgs false
set_option linter.unusedVariables false
-- NEWM
namespace Go.Proofs.YtophoepbedlhjaaGreatDoor
open Go Go.RowKit
set_option maxRecDepth 100000
def jbP (j:Jb):List CV:=[T (stW j.st),I j.ly.length,I j.all,I j.beg,I (j.ly.getLast?.getD 0),I j.en]
def RunOk (js:List Jb) (rl:List (Nat × List UInt8 × List UInt8)):Prop:=∀s,mget rl s=(runI js s).bind fun k=>js[k]?.map Jb.nm
theorem zc11 (js:List Jb) (bl:List Nat) (rl:List (Nat × List UInt8 × List UInt8)) (rk:Nat) (sp:List (Nat × List UInt8 × List UInt8)) (spk:Nat) (lf:List (Nat × List UInt8 × Int)) (lfk:Nat) (us:List (Nat × List UInt8 × Int)) (usk:Nat) (c1 c2:Nat) (R1 R2:List Int) (s:List UInt8) (hok:MapOk sp spk):ACallsX true Tryz.prog 206 [.p 0 0 0,.c (T s)] [.box [.mp 1,.mp 2,.mp 3,.mp 4,.mp 5,.o 6 0 R1.length c1,.o 7 0 R2.length c2],mSP (jlF 0 js bl) js.length,mSS rl rk,mSS sp spk,mSI lf lfk,mSI us usk,.arr 3 1 c1 (nR R1),.arr 31 1 c2 (nR R2),.pool (plF jbP js bl)] fun u H=>u = .c (B (inUse sp s))∧H = [.box [.mp 1,.mp 2,.mp 3,.mp 4,.mp 5,.o 6 0 R1.length c1,.o 7 0 R2.length c2],mSP (jlF 0 js bl) js.length,mSS rl rk,mSS sp spk,mSI lf lfk,mSI us usk,.arr 3 1 c1 (nR R1),.arr 31 1 c2 (nR R2),.pool (plF jbP js bl)]:=by
 refine ze1 true (N:=19) Tryz.func206 rfl rfl (by simp) fun E hE hP=>?_
 refine WA ?_
 refine ZR ?_
 iterate 4 refine WX1 ?_
 refine zf rfl (zi9 (ke:=encSt) (ve:=encSt) (l:=sp) (ck:=spk) rfl rfl (by decide) Tryz.underlying110 rfl rfl) ?_
 rintro _ _ ⟨rfl,rfl⟩
 refine WE ?_
 refine zm (fun m F H=>∃(seen:List Nat),unsG sp seen=m∧(∀e∈sp,e.1∈seen→e.2.2≠s)∧F = [(1,.c (T s)),(11,.p 9 0 0)]∧H = [.box [.mp 1,.mp 2,.mp 3,.mp 4,.mp 5,.o 6 0 R1.length c1,.o 7 0 R2.length c2],mSP (jlF 0 js bl) js.length,mSS rl rk,mSS sp spk,mSI lf lfk,mSI us usk,.arr 3 1 c1 (nR R1),.arr 31 1 c2 (nR R2),.pool (plF jbP js bl),.itr 3 spk seen spk]) ?_ ?_
 ·refine wkg [some 0,some 1,some 2,some 3,some 4,some 5,some 6,some 7,some 8,some 9] (fun _=>[(1,.c (T s)),(11,.p 9 0 0)]) (fun _=>[.box [.mp 1,.mp 2,.mp 3,.mp 4,.mp 5,.o 6 0 R1.length c1,.o 7 0 R2.length c2],mSP (jlF 0 js bl) js.length,mSS rl rk,mSS sp spk,mSI lf lfk,mSI us usk,.arr 3 1 c1 (nR R1),.arr 31 1 c2 (nR R2),.pool (plF jbP js bl),.itr 3 spk [] spk]) (fun _=>?_)
  exact⟨_,[],rfl,fun e _ h=>(by cases h),rfl,rfl⟩
 rintro m F H ⟨seen,hm,hs,rfl,rfl⟩
 refine ZR ?_
 refine zf rfl (zp11 (ke:=encSt) (ve:=encSt) (l:=sp) rfl rfl (by decide) rfl rfl rfl hok.hb (Nat.le_refl _)) ?_
 rintro _ _ (⟨⟨eb,ek,es⟩,he,hne,rfl,rfl⟩|⟨hall,rfl,rfl⟩)
 all_goals (refine WE ?_)
 ·refine zd rfl ?_
  have hlt:=zk10 he hne
  obtain⟨q,hq⟩:∃q,decide (es=s)=q:=⟨_,rfl⟩
  refine ZR ?_
  refine ZA (zQ8 (ke:=encSt) (ve:=encSt) (e:=(eb,ek,es)) rfl rfl rfl rfl he hok.nb) ?_
  refine WE ?_
  refine ZR ?_
  iterate 2 refine WX1 ?_
  refine ZA (zn3 (a:=es) (b:=s) hq rfl Tryz.underlying9 rfl rfl) ?_
  refine WE ?_
  cases q with
  | true=>
   refine zd rfl ?_
   refine WA ?_
   have hi:inUse sp s=true:=List.any_eq_true.2 ⟨_,he,hq⟩
   exact arg1 [some 0,some 1,some 2,some 3,some 4,some 5,some 6,some 7,some 8] [.box [.mp 1,.mp 2,.mp 3,.mp 4,.mp 5,.o 6 0 R1.length c1,.o 7 0 R2.length c2],mSP (jlF 0 js bl) js.length,mSS rl rk,mSS sp spk,mSI lf lfk,mSI us usk,.arr 3 1 c1 (nR R1),.arr 31 1 c2 (nR R2),.pool (plF jbP js bl)] (q:=⟨by rw[hi],rfl⟩)
  | false=>
   refine za rfl ?_
   refine ZZ ?_
   refine wkg [some 0,some 1,some 2,some 3,some 4,some 5,some 6,some 7,some 8,some 9] (fun _=>[(1,.c (T s)),(11,.p 9 0 0)]) (fun _=>[.box [.mp 1,.mp 2,.mp 3,.mp 4,.mp 5,.o 6 0 R1.length c1,.o 7 0 R2.length c2],mSP (jlF 0 js bl) js.length,mSS rl rk,mSS sp spk,mSI lf lfk,mSI us usk,.arr 3 1 c1 (nR R1),.arr 31 1 c2 (nR R2),.pool (plF jbP js bl),.itr 3 spk (seen++[eb]) spk]) (fun _=>?_)
   refine⟨_,by rw[←hm];exact hlt,seen++[eb],rfl,fun e he2 h=>?_,rfl,rfl⟩
   rcases List.mem_append.1 h with h|h
   ·exact hs e he2 h
   ·rw[List.mem_singleton] at h
    have:=zC11 hok.nb he2 he h
    subst this
    exact of_decide_eq_false hq
 ·refine za rfl ?_
  have hi:inUse sp s=false:=by
   unfold inUse
   rw[List.any_eq_false]
   intro e he
   simpa using hs e he (hall e he)
  refine WA ?_
  exact arg1 [some 0,some 1,some 2,some 3,some 4,some 5,some 6,some 7,some 8] [.box [.mp 1,.mp 2,.mp 3,.mp 4,.mp 5,.o 6 0 R1.length c1,.o 7 0 R2.length c2],mSP (jlF 0 js bl) js.length,mSS rl rk,mSS sp spk,mSI lf lfk,mSI us usk,.arr 3 1 c1 (nR R1),.arr 31 1 c2 (nR R2),.pool (plF jbP js bl)] (q:=⟨by rw[hi],rfl⟩)
set_option maxHeartbeats 4000000 in
theorem zB10 (js:List Jb) (bl:List Nat) (rl:List (Nat × List UInt8 × List UInt8)) (rk:Nat) (sp:List (Nat × List UInt8 × List UInt8)) (spk:Nat) (lf:List (Nat × List UInt8 × Int)) (lfk:Nat) (us:List (Nat × List UInt8 × Int)) (usk:Nat) (c1 c2:Nat) (R1 R2:List Int) (x:Nt) (hJ:JsOk js) (hbl:bl.length=js.length) (hrl:RunOk js rl) (hsp:MapOk sp spk):ACallsX true Tryz.prog 132 [.p 0 0 0,noA x] [.box [.mp 1,.mp 2,.mp 3,.mp 4,.mp 5,.o 6 0 R1.length c1,.o 7 0 R2.length c2],mSP (jlF 0 js bl) js.length,mSS rl rk,mSS sp spk,mSI lf lfk,mSI us usk,.arr 3 1 c1 (nR R1),.arr 31 1 c2 (nR R2),.pool (plF jbP js bl)] fun u H=>u = .c (I (rfE ⟨js,sp,spk,lf,lfk,us,usk⟩ x))∧H = [.box [.mp 1,.mp 2,.mp 3,.mp 4,.mp 5,.o 6 0 R1.length c1,.o 7 0 R2.length c2],mSP (jlF 0 js bl) js.length,mSS rl rk,mSS sp spk,mSI lf lfk,mSI us usk,.arr 3 1 c1 (nR R1),.arr 31 1 c2 (nR R2),.pool (plF jbP js bl)]:=by
 obtain⟨st,no,at_,kn,pr,jb,sn,n,of_,ot⟩:=x
 show ACallsX _ _ _ [.p 0 0 0,.a [.c (T st),.c (I no),.c (I at_),.c (I kn),.c (T pr),.c (T jb),.c (T sn),.c (I n),.c (T of_),.c (I ot)]] _ _
 have hpx:PoolIx 8:=⟨trivial⟩
 refine ze1 true (N:=113) Tryz.func132 rfl rfl (by simp) fun E hE hP=>?_
 refine WA ?_
 have hrp:=hrl pr
 rcases hrun:runI js pr with _|k
 ·rw[hrun] at hrp
  have hn1:(mget rl pr).getD [] = []:=by rw[hrp];rfl
  have hn2:(mget rl pr).isSome=false:=by rw[hrp];rfl
  have hj:(mget (jlF 0 js bl) []).getD (.pointer none) = .pointer none:=by rw[zl4 hbl (ze8 fun j hj=>by simpa using (hJ.ne j hj).symm)];rfl
  refine ZZ ?_
  refine zc [(0,none),(1,none),(2,none),(3,none),(4,none),(5,none),(6,none),(7,none),(8,none),(9,none),(10,none),(11,none)] zo (by kernel_rfl) ?_
  iterate 6 refine WX2 ?_
  refine ZT rfl (zm3 (k:=pr) (l:=rl) hn1 hn2 rfl rfl rfl rfl) ?_
  refine WQ ?_
  refine ZR ?_
  iterate 5 refine WX1 ?_
  refine ZA (zf3 (k:=[]) (l:=(jlF 0 js bl)) hj rfl rfl rfl rfl) ?_
  refine WE ?_
  refine WA ?_
  by_cases h1:kn=1
  ·subst h1
   refine WA ?_
   refine zd rfl ?_
   refine ZZ ?_
   rcases hnj:nmI js jb with _|q
   ·have hjb:(mget (jlF 0 js bl) jb).getD (.pointer none) = .pointer none:=by rw[zl4 hbl hnj];rfl
    refine ZZ ?_
    refine zc [(0,none),(1,none),(2,none),(3,none),(4,none),(5,none),(6,none),(7,none),(8,none)] zo (by kernel_rfl) ?_
    iterate 6 refine WX2 ?_
    refine ZT rfl (zf3 (k:=jb) (l:=(jlF 0 js bl)) hjb rfl rfl rfl rfl) ?_
    refine WQ ?_
    refine za rfl ?_
    refine WA ?_
    refine za rfl ?_
    refine WA ?_
    exact arg1 [some 0,some 1,some 2,some 3,some 4,some 5,some 6,some 7,some 8] [.box [.mp 1,.mp 2,.mp 3,.mp 4,.mp 5,.o 6 0 R1.length c1,.o 7 0 R2.length c2],mSP (jlF 0 js bl) js.length,mSS rl rk,mSS sp spk,mSI lf lfk,mSI us usk,.arr 3 1 c1 (nR R1),.arr 31 1 c2 (nR R2),.pool (plF jbP js bl)] (q:=⟨congrArg (fun z=>AV.c (I z)) (by simp[rfE,runJ,hrun,hnj]),rfl⟩)
   ·obtain⟨bq,hbq1,hbq2⟩:=zq5 hbl hnj
    have hjb:(mget (jlF 0 js bl) jb).getD (.pointer none)=ptrV bq:=by rw[hbq2];rfl
    refine ZZ ?_
    refine zc [(0,none),(1,none),(2,none),(3,none),(4,none),(5,none),(6,none),(7,none),(8,none)] zo (by kernel_rfl) ?_
    iterate 6 refine WX2 ?_
    refine ZT rfl (zf3 (k:=jb) (l:=(jlF 0 js bl)) hjb rfl rfl rfl rfl) ?_
    refine WQ ?_
    refine zd rfl ?_
    refine WA ?_
    exact arg1 [some 0,some 1,some 2,some 3,some 4,some 5,some 6,some 7,some 8] [.box [.mp 1,.mp 2,.mp 3,.mp 4,.mp 5,.o 6 0 R1.length c1,.o 7 0 R2.length c2],mSP (jlF 0 js bl) js.length,mSS rl rk,mSS sp spk,mSI lf lfk,mSI us usk,.arr 3 1 c1 (nR R1),.arr 31 1 c2 (nR R2),.pool (plF jbP js bl)] (q:=⟨congrArg (fun z=>AV.c (I z)) (by simp[rfE,runJ,hrun,hnj]),rfl⟩)
  by_cases h2:kn=2
  ·subst h2
   refine WA ?_
   refine za rfl ?_
   refine WA ?_
   refine zd rfl ?_
   refine WA ?_
   refine zd rfl ?_
   refine WA ?_
   exact arg1 [some 0,some 1,some 2,some 3,some 4,some 5,some 6,some 7,some 8] [.box [.mp 1,.mp 2,.mp 3,.mp 4,.mp 5,.o 6 0 R1.length c1,.o 7 0 R2.length c2],mSP (jlF 0 js bl) js.length,mSS rl rk,mSS sp spk,mSI lf lfk,mSI us usk,.arr 3 1 c1 (nR R1),.arr 31 1 c2 (nR R2),.pool (plF jbP js bl)] (q:=⟨congrArg (fun z=>AV.c (I z)) (by simp[rfE,runJ,hrun]),rfl⟩)
  by_cases h3:kn=3
  ·subst h3
   refine WA ?_
   refine za rfl ?_
   refine WA ?_
   refine za rfl ?_
   refine WA ?_
   refine zd rfl ?_
   refine WA ?_
   refine zd rfl ?_
   refine WA ?_
   exact arg1 [some 0,some 1,some 2,some 3,some 4,some 5,some 6,some 7,some 8] [.box [.mp 1,.mp 2,.mp 3,.mp 4,.mp 5,.o 6 0 R1.length c1,.o 7 0 R2.length c2],mSP (jlF 0 js bl) js.length,mSS rl rk,mSS sp spk,mSI lf lfk,mSI us usk,.arr 3 1 c1 (nR R1),.arr 31 1 c2 (nR R2),.pool (plF jbP js bl)] (q:=⟨congrArg (fun z=>AV.c (I z)) (by simp[rfE,runJ,hrun]),rfl⟩)
  by_cases h4:kn=4
  ·subst h4
   refine WA ?_
   refine za rfl ?_
   refine WA ?_
   refine za rfl ?_
   refine WA ?_
   refine za rfl ?_
   refine WA ?_
   refine zd rfl ?_
   refine WA ?_
   refine zd rfl ?_
   refine WA ?_
   exact arg1 [some 0,some 1,some 2,some 3,some 4,some 5,some 6,some 7,some 8] [.box [.mp 1,.mp 2,.mp 3,.mp 4,.mp 5,.o 6 0 R1.length c1,.o 7 0 R2.length c2],mSP (jlF 0 js bl) js.length,mSS rl rk,mSS sp spk,mSI lf lfk,mSI us usk,.arr 3 1 c1 (nR R1),.arr 31 1 c2 (nR R2),.pool (plF jbP js bl)] (q:=⟨congrArg (fun z=>AV.c (I z)) (by simp[rfE,runJ,hrun]),rfl⟩)
  by_cases h5:kn=5
  ·subst h5
   refine WA ?_
   refine za rfl ?_
   refine WA ?_
   refine za rfl ?_
   refine WA ?_
   refine za rfl ?_
   refine WA ?_
   refine za rfl ?_
   refine WA ?_
   refine zd rfl ?_
   refine ZZ ?_
   obtain⟨q,hiu⟩:∃q,inUse sp sn=q:=⟨_,rfl⟩
   refine WR ?_
   refine zf rfl (zX1 [0,1,2,3,4,5,6,7,8] (fun _=>[.box [.mp 1,.mp 2,.mp 3,.mp 4,.mp 5,.o 6 0 R1.length c1,.o 7 0 R2.length c2],mSP (jlF 0 js bl) js.length,mSS rl rk,mSS sp spk,mSI lf lfk,mSI us usk,.arr 3 1 c1 (nR R1),.arr 31 1 c2 (nR R2),.pool (plF jbP js bl)]) false (fun _=>zc11 js bl rl rk sp spk lf lfk us usk c1 c2 R1 R2 sn hsp) rfl .fn rfl (by decide) (by kernel_rfl) rfl ZCH (by decide) ZCH (by simp)) ?_
   rintro F1 H1 ⟨_,_,_,_,⟨rfl,rfl⟩,hF,hH⟩
   rw[zS] at hF;rw[hiu] at hF;(refine NSU hF hH ?_;clear hF hH;rintro rfl rfl)
   refine WE ?_
   cases q with
   | true=>
    refine zd rfl ?_
    refine WA ?_
    exact arg1 [some 0,some 1,some 2,some 3,some 4,some 5,some 6,some 7,some 8] [.box [.mp 1,.mp 2,.mp 3,.mp 4,.mp 5,.o 6 0 R1.length c1,.o 7 0 R2.length c2],mSP (jlF 0 js bl) js.length,mSS rl rk,mSS sp spk,mSI lf lfk,mSI us usk,.arr 3 1 c1 (nR R1),.arr 31 1 c2 (nR R2),.pool (plF jbP js bl)] (q:=⟨congrArg (fun z=>AV.c (I z)) (by simp[rfE,hiu]),rfl⟩)
   | false=>
    refine za rfl ?_
    refine WA ?_
    exact arg1 [some 0,some 1,some 2,some 3,some 4,some 5,some 6,some 7,some 8] [.box [.mp 1,.mp 2,.mp 3,.mp 4,.mp 5,.o 6 0 R1.length c1,.o 7 0 R2.length c2],mSP (jlF 0 js bl) js.length,mSS rl rk,mSS sp spk,mSI lf lfk,mSI us usk,.arr 3 1 c1 (nR R1),.arr 31 1 c2 (nR R2),.pool (plF jbP js bl)] (q:=⟨congrArg (fun z=>AV.c (I z)) (by simp[rfE,hiu]),rfl⟩)
  by_cases h6:kn=6
  ·subst h6
   refine WA ?_
   refine za rfl ?_
   refine WA ?_
   refine za rfl ?_
   refine WA ?_
   refine za rfl ?_
   refine WA ?_
   refine za rfl ?_
   refine WA ?_
   refine za rfl ?_
   refine WA ?_
   refine zd rfl ?_
   refine ZZ ?_
   rcases hsg:mget sp pr with _|kk
   ·have hs1:(mget sp pr).getD [] = []:=by rw[hsg];rfl
    have hs2:(mget sp pr).isSome=false:=by rw[hsg];rfl
    refine ZZ ?_
    refine zc [(0,none),(1,none),(2,none),(3,none),(4,none),(5,none),(6,none),(7,none),(8,none),(9,none),(10,none),(11,none)] zo (by kernel_rfl) ?_
    iterate 6 refine WX2 ?_
    refine ZT rfl (zm3 (k:=pr) (l:=sp) hs1 hs2 rfl rfl rfl rfl) ?_
    refine WQ ?_
    refine WA ?_
    refine zd rfl ?_
    refine WA ?_
    exact arg1 [some 0,some 1,some 2,some 3,some 4,some 5,some 6,some 7,some 8] [.box [.mp 1,.mp 2,.mp 3,.mp 4,.mp 5,.o 6 0 R1.length c1,.o 7 0 R2.length c2],mSP (jlF 0 js bl) js.length,mSS rl rk,mSS sp spk,mSI lf lfk,mSI us usk,.arr 3 1 c1 (nR R1),.arr 31 1 c2 (nR R2),.pool (plF jbP js bl)] (q:=⟨congrArg (fun z=>AV.c (I z)) (by simp[rfE,hsg]),rfl⟩)
   ·have hs1:(mget sp pr).getD []=kk:=by rw[hsg];rfl
    have hs2:(mget sp pr).isSome=true:=by rw[hsg];rfl
    obtain⟨lv,hlf⟩:∃q,(mget lf kk).getD 0=q:=⟨_,rfl⟩
    refine ZZ ?_
    refine zc [(0,none),(1,none),(2,none),(3,none),(4,none),(5,none),(6,none),(7,none),(8,none),(9,none),(10,none),(11,none)] zo (by kernel_rfl) ?_
    iterate 6 refine WX2 ?_
    refine ZT rfl (zm3 (k:=pr) (l:=sp) hs1 hs2 rfl rfl rfl rfl) ?_
    refine WQ ?_
    refine WA ?_
    refine za rfl ?_
    refine ZZ ?_
    refine zc [(0,none),(1,none),(2,none),(3,none),(4,none),(5,none),(6,none),(7,none),(8,none),(9,none)] zo (by kernel_rfl) ?_
    iterate 5 refine WX2 ?_
    refine ZT rfl (zf4 (k:=kk) (l:=lf) hlf rfl rfl rfl rfl) ?_
    refine WQ ?_
    refine zl rfl (fun g1=>?_) (fun g1=>?_)
    ·refine WA ?_
     exact arg1 [some 0,some 1,some 2,some 3,some 4,some 5,some 6,some 7,some 8] [.box [.mp 1,.mp 2,.mp 3,.mp 4,.mp 5,.o 6 0 R1.length c1,.o 7 0 R2.length c2],mSP (jlF 0 js bl) js.length,mSS rl rk,mSS sp spk,mSI lf lfk,mSI us usk,.arr 3 1 c1 (nR R1),.arr 31 1 c2 (nR R2),.pool (plF jbP js bl)] (q:=⟨congrArg (fun z=>AV.c (I z)) (by simp[rfE,hsg,hlf,g1]),rfl⟩)
    refine WA ?_
    exact arg1 [some 0,some 1,some 2,some 3,some 4,some 5,some 6,some 7,some 8] [.box [.mp 1,.mp 2,.mp 3,.mp 4,.mp 5,.o 6 0 R1.length c1,.o 7 0 R2.length c2],mSP (jlF 0 js bl) js.length,mSS rl rk,mSS sp spk,mSI lf lfk,mSI us usk,.arr 3 1 c1 (nR R1),.arr 31 1 c2 (nR R2),.pool (plF jbP js bl)] (q:=⟨congrArg (fun z=>AV.c (I z)) (by simp[rfE,hsg,hlf,g1]),rfl⟩)
  refine WA ?_
  refine za rfl ?_
  refine WA ?_
  refine za rfl ?_
  refine WA ?_
  refine za rfl ?_
  refine WA ?_
  refine za rfl ?_
  refine WA ?_
  refine za rfl ?_
  refine WA ?_
  refine za rfl ?_
  refine WA ?_
  exact arg1 [some 0,some 1,some 2,some 3,some 4,some 5,some 6,some 7,some 8] [.box [.mp 1,.mp 2,.mp 3,.mp 4,.mp 5,.o 6 0 R1.length c1,.o 7 0 R2.length c2],mSP (jlF 0 js bl) js.length,mSS rl rk,mSS sp spk,mSI lf lfk,mSI us usk,.arr 3 1 c1 (nR R1),.arr 31 1 c2 (nR R2),.pool (plF jbP js bl)] (q:=⟨congrArg (fun z=>AV.c (I z)) (by simp[rfE,h1,h2,h3,h4,h5,h6]),rfl⟩)
 ·obtain⟨j,hk,hjp,hjs⟩:=zG1 hrun
  rw[hrun] at hrp
  have hn1:(mget rl pr).getD []=j.nm:=by rw[hrp];simp[hk]
  have hn2:(mget rl pr).isSome=true:=by rw[hrp];simp[hk]
  obtain⟨b0,hb0,hb1⟩:=zq5 hbl (nmI_is hJ hk)
  have hj:(mget (jlF 0 js bl) j.nm).getD (.pointer none)=ptrV b0:=by rw[hb1];rfl
  have hin:InPool k b0 (plF jbP js bl) [T (stW j.st),I j.ly.length,I j.all,I j.beg,I (j.ly.getLast?.getD 0),I j.en]:=⟨zj5 hk hb0⟩
  have hall:=hJ.all j (List.mem_of_getElem? hk)
  refine ZZ ?_
  refine zc [(0,none),(1,none),(2,none),(3,none),(4,none),(5,none),(6,none),(7,none),(8,none),(9,none),(10,none),(11,none)] zo (by kernel_rfl) ?_
  iterate 6 refine WX2 ?_
  refine ZT rfl (zm3 (k:=pr) (l:=rl) hn1 hn2 rfl rfl rfl rfl) ?_
  refine WQ ?_
  refine ZR ?_
  iterate 5 refine WX1 ?_
  refine ZA (zf3 (k:=j.nm) (l:=(jlF 0 js bl)) hj rfl rfl rfl rfl) ?_
  refine WE ?_
  refine WA ?_
  by_cases h1:kn=1
  ·subst h1
   refine WA ?_
   refine zd rfl ?_
   refine ZZ ?_
   rcases hnj:nmI js jb with _|q
   ·have hjb:(mget (jlF 0 js bl) jb).getD (.pointer none) = .pointer none:=by rw[zl4 hbl hnj];rfl
    refine ZZ ?_
    refine zc [(0,none),(1,none),(2,none),(3,none),(4,none),(5,none),(6,none),(7,none),(8,none)] zo (by kernel_rfl) ?_
    iterate 6 refine WX2 ?_
    refine ZT rfl (zf3 (k:=jb) (l:=(jlF 0 js bl)) hjb rfl rfl rfl rfl) ?_
    refine WQ ?_
    refine za rfl ?_
    refine WA ?_
    refine zd rfl ?_
    refine WA ?_
    exact arg1 [some 0,some 1,some 2,some 3,some 4,some 5,some 6,some 7,some 8] [.box [.mp 1,.mp 2,.mp 3,.mp 4,.mp 5,.o 6 0 R1.length c1,.o 7 0 R2.length c2],mSP (jlF 0 js bl) js.length,mSS rl rk,mSS sp spk,mSI lf lfk,mSI us usk,.arr 3 1 c1 (nR R1),.arr 31 1 c2 (nR R2),.pool (plF jbP js bl)] (q:=⟨congrArg (fun z=>AV.c (I z)) (by simp[rfE,runJ,hrun,hk,hnj]),rfl⟩)
   ·obtain⟨bq,hbq1,hbq2⟩:=zq5 hbl hnj
    have hjb:(mget (jlF 0 js bl) jb).getD (.pointer none)=ptrV bq:=by rw[hbq2];rfl
    refine ZZ ?_
    refine zc [(0,none),(1,none),(2,none),(3,none),(4,none),(5,none),(6,none),(7,none),(8,none)] zo (by kernel_rfl) ?_
    iterate 6 refine WX2 ?_
    refine ZT rfl (zf3 (k:=jb) (l:=(jlF 0 js bl)) hjb rfl rfl rfl rfl) ?_
    refine WQ ?_
    refine zd rfl ?_
    refine WA ?_
    exact arg1 [some 0,some 1,some 2,some 3,some 4,some 5,some 6,some 7,some 8] [.box [.mp 1,.mp 2,.mp 3,.mp 4,.mp 5,.o 6 0 R1.length c1,.o 7 0 R2.length c2],mSP (jlF 0 js bl) js.length,mSS rl rk,mSS sp spk,mSI lf lfk,mSI us usk,.arr 3 1 c1 (nR R1),.arr 31 1 c2 (nR R2),.pool (plF jbP js bl)] (q:=⟨congrArg (fun z=>AV.c (I z)) (by simp[rfE,runJ,hrun,hk,hnj]),rfl⟩)
  by_cases h2:kn=2
  ·subst h2
   refine WA ?_
   refine za rfl ?_
   refine WA ?_
   refine zd rfl ?_
   refine WA ?_
   refine za rfl ?_
   refine ZZ ?_
   refine zc [(0,none),(1,none),(2,none),(3,none),(4,none),(5,none),(6,none),(7,none),(8,none)] zo (by kernel_rfl) ?_
   refine WQ ?_
   refine zl rfl (fun g1=>?_) (fun g1=>?_)
   ·refine WA ?_
    exact arg1 [some 0,some 1,some 2,some 3,some 4,some 5,some 6,some 7,some 8] [.box [.mp 1,.mp 2,.mp 3,.mp 4,.mp 5,.o 6 0 R1.length c1,.o 7 0 R2.length c2],mSP (jlF 0 js bl) js.length,mSS rl rk,mSS sp spk,mSI lf lfk,mSI us usk,.arr 3 1 c1 (nR R1),.arr 31 1 c2 (nR R2),.pool (plF jbP js bl)] (q:=⟨congrArg (fun z=>AV.c (I z)) (by simp[rfE,runJ,hrun,hk,g1]),rfl⟩)
   refine ZZ ?_
   refine zc [(0,none),(1,none),(2,none),(3,none),(4,none),(5,none),(6,none),(7,none)] zo (by kernel_rfl) ?_
   refine WQ ?_
   refine zl rfl (fun g2=>?_) (fun g2=>?_)
   ·refine WA ?_
    exact arg1 [some 0,some 1,some 2,some 3,some 4,some 5,some 6,some 7,some 8] [.box [.mp 1,.mp 2,.mp 3,.mp 4,.mp 5,.o 6 0 R1.length c1,.o 7 0 R2.length c2],mSP (jlF 0 js bl) js.length,mSS rl rk,mSS sp spk,mSI lf lfk,mSI us usk,.arr 3 1 c1 (nR R1),.arr 31 1 c2 (nR R2),.pool (plF jbP js bl)] (q:=⟨congrArg (fun z=>AV.c (I z)) (by have g3:n=(j.ly.length:Int)+1:=Decidable.not_not.1 g1;simp[rfE,runJ,hrun,hk,g3];omega),rfl⟩)
   refine WA ?_
   exact arg1 [some 0,some 1,some 2,some 3,some 4,some 5,some 6,some 7,some 8] [.box [.mp 1,.mp 2,.mp 3,.mp 4,.mp 5,.o 6 0 R1.length c1,.o 7 0 R2.length c2],mSP (jlF 0 js bl) js.length,mSS rl rk,mSS sp spk,mSI lf lfk,mSI us usk,.arr 3 1 c1 (nR R1),.arr 31 1 c2 (nR R2),.pool (plF jbP js bl)] (q:=⟨congrArg (fun z=>AV.c (I z)) (by have g3:n=(j.ly.length:Int)+1:=Decidable.not_not.1 g1;simp[rfE,runJ,hrun,hk,g3];omega),rfl⟩)
  by_cases h3:kn=3
  ·subst h3
   refine WA ?_
   refine za rfl ?_
   refine WA ?_
   refine za rfl ?_
   refine WA ?_
   refine zd rfl ?_
   refine WA ?_
   refine za rfl ?_
   refine ZZ ?_
   refine zc [(0,none),(1,none),(2,none),(3,none),(4,none),(5,none),(6,none),(7,none),(8,none),(9,none)] zo (by kernel_rfl) ?_
   refine WQ ?_
   refine zl rfl (fun g1=>?_) (fun g1=>?_)
   ·refine WA ?_
    exact arg1 [some 0,some 1,some 2,some 3,some 4,some 5,some 6,some 7,some 8] [.box [.mp 1,.mp 2,.mp 3,.mp 4,.mp 5,.o 6 0 R1.length c1,.o 7 0 R2.length c2],mSP (jlF 0 js bl) js.length,mSS rl rk,mSS sp spk,mSI lf lfk,mSI us usk,.arr 3 1 c1 (nR R1),.arr 31 1 c2 (nR R2),.pool (plF jbP js bl)] (q:=⟨congrArg (fun z=>AV.c (I z)) (by simp[rfE,runJ,hrun,hk,g1]),rfl⟩)
   refine WA ?_
   exact arg1 [some 0,some 1,some 2,some 3,some 4,some 5,some 6,some 7,some 8] [.box [.mp 1,.mp 2,.mp 3,.mp 4,.mp 5,.o 6 0 R1.length c1,.o 7 0 R2.length c2],mSP (jlF 0 js bl) js.length,mSS rl rk,mSS sp spk,mSI lf lfk,mSI us usk,.arr 3 1 c1 (nR R1),.arr 31 1 c2 (nR R2),.pool (plF jbP js bl)] (q:=⟨congrArg (fun z=>AV.c (I z)) (by simp[rfE,runJ,hrun,hk];omega),rfl⟩)
  by_cases h4:kn=4
  ·subst h4
   refine WA ?_
   refine za rfl ?_
   refine WA ?_
   refine za rfl ?_
   refine WA ?_
   refine za rfl ?_
   refine WA ?_
   refine zd rfl ?_
   refine WA ?_
   refine za rfl ?_
   refine WA ?_
   exact arg1 [some 0,some 1,some 2,some 3,some 4,some 5,some 6,some 7,some 8] [.box [.mp 1,.mp 2,.mp 3,.mp 4,.mp 5,.o 6 0 R1.length c1,.o 7 0 R2.length c2],mSP (jlF 0 js bl) js.length,mSS rl rk,mSS sp spk,mSI lf lfk,mSI us usk,.arr 3 1 c1 (nR R1),.arr 31 1 c2 (nR R2),.pool (plF jbP js bl)] (q:=⟨congrArg (fun z=>AV.c (I z)) (by simp[rfE,runJ,hrun,hk]),rfl⟩)
  by_cases h5:kn=5
  ·subst h5
   refine WA ?_
   refine za rfl ?_
   refine WA ?_
   refine za rfl ?_
   refine WA ?_
   refine za rfl ?_
   refine WA ?_
   refine za rfl ?_
   refine WA ?_
   refine zd rfl ?_
   refine ZZ ?_
   obtain⟨q,hiu⟩:∃q,inUse sp sn=q:=⟨_,rfl⟩
   refine WR ?_
   refine zf rfl (zX1 [0,1,2,3,4,5,6,7,8] (fun _=>[.box [.mp 1,.mp 2,.mp 3,.mp 4,.mp 5,.o 6 0 R1.length c1,.o 7 0 R2.length c2],mSP (jlF 0 js bl) js.length,mSS rl rk,mSS sp spk,mSI lf lfk,mSI us usk,.arr 3 1 c1 (nR R1),.arr 31 1 c2 (nR R2),.pool (plF jbP js bl)]) false (fun _=>zc11 js bl rl rk sp spk lf lfk us usk c1 c2 R1 R2 sn hsp) rfl .fn rfl (by decide) (by kernel_rfl) rfl ZCH (by decide) ZCH (by simp)) ?_
   rintro F1 H1 ⟨_,_,_,_,⟨rfl,rfl⟩,hF,hH⟩
   rw[zS] at hF;rw[hiu] at hF;(refine NSU hF hH ?_;clear hF hH;rintro rfl rfl)
   refine WE ?_
   cases q with
   | true=>
    refine zd rfl ?_
    refine WA ?_
    exact arg1 [some 0,some 1,some 2,some 3,some 4,some 5,some 6,some 7,some 8] [.box [.mp 1,.mp 2,.mp 3,.mp 4,.mp 5,.o 6 0 R1.length c1,.o 7 0 R2.length c2],mSP (jlF 0 js bl) js.length,mSS rl rk,mSS sp spk,mSI lf lfk,mSI us usk,.arr 3 1 c1 (nR R1),.arr 31 1 c2 (nR R2),.pool (plF jbP js bl)] (q:=⟨congrArg (fun z=>AV.c (I z)) (by simp[rfE,hiu]),rfl⟩)
   | false=>
    refine za rfl ?_
    refine WA ?_
    exact arg1 [some 0,some 1,some 2,some 3,some 4,some 5,some 6,some 7,some 8] [.box [.mp 1,.mp 2,.mp 3,.mp 4,.mp 5,.o 6 0 R1.length c1,.o 7 0 R2.length c2],mSP (jlF 0 js bl) js.length,mSS rl rk,mSS sp spk,mSI lf lfk,mSI us usk,.arr 3 1 c1 (nR R1),.arr 31 1 c2 (nR R2),.pool (plF jbP js bl)] (q:=⟨congrArg (fun z=>AV.c (I z)) (by simp[rfE,hiu]),rfl⟩)
  by_cases h6:kn=6
  ·subst h6
   refine WA ?_
   refine za rfl ?_
   refine WA ?_
   refine za rfl ?_
   refine WA ?_
   refine za rfl ?_
   refine WA ?_
   refine za rfl ?_
   refine WA ?_
   refine za rfl ?_
   refine WA ?_
   refine zd rfl ?_
   refine ZZ ?_
   rcases hsg:mget sp pr with _|kk
   ·have hs1:(mget sp pr).getD [] = []:=by rw[hsg];rfl
    have hs2:(mget sp pr).isSome=false:=by rw[hsg];rfl
    refine ZZ ?_
    refine zc [(0,none),(1,none),(2,none),(3,none),(4,none),(5,none),(6,none),(7,none),(8,none),(9,none),(10,none),(11,none)] zo (by kernel_rfl) ?_
    iterate 6 refine WX2 ?_
    refine ZT rfl (zm3 (k:=pr) (l:=sp) hs1 hs2 rfl rfl rfl rfl) ?_
    refine WQ ?_
    refine WA ?_
    refine zd rfl ?_
    refine WA ?_
    exact arg1 [some 0,some 1,some 2,some 3,some 4,some 5,some 6,some 7,some 8] [.box [.mp 1,.mp 2,.mp 3,.mp 4,.mp 5,.o 6 0 R1.length c1,.o 7 0 R2.length c2],mSP (jlF 0 js bl) js.length,mSS rl rk,mSS sp spk,mSI lf lfk,mSI us usk,.arr 3 1 c1 (nR R1),.arr 31 1 c2 (nR R2),.pool (plF jbP js bl)] (q:=⟨congrArg (fun z=>AV.c (I z)) (by simp[rfE,hsg]),rfl⟩)
   ·have hs1:(mget sp pr).getD []=kk:=by rw[hsg];rfl
    have hs2:(mget sp pr).isSome=true:=by rw[hsg];rfl
    obtain⟨lv,hlf⟩:∃q,(mget lf kk).getD 0=q:=⟨_,rfl⟩
    refine ZZ ?_
    refine zc [(0,none),(1,none),(2,none),(3,none),(4,none),(5,none),(6,none),(7,none),(8,none),(9,none),(10,none),(11,none)] zo (by kernel_rfl) ?_
    iterate 6 refine WX2 ?_
    refine ZT rfl (zm3 (k:=pr) (l:=sp) hs1 hs2 rfl rfl rfl rfl) ?_
    refine WQ ?_
    refine WA ?_
    refine za rfl ?_
    refine ZZ ?_
    refine zc [(0,none),(1,none),(2,none),(3,none),(4,none),(5,none),(6,none),(7,none),(8,none),(9,none)] zo (by kernel_rfl) ?_
    iterate 5 refine WX2 ?_
    refine ZT rfl (zf4 (k:=kk) (l:=lf) hlf rfl rfl rfl rfl) ?_
    refine WQ ?_
    refine zl rfl (fun g1=>?_) (fun g1=>?_)
    ·refine WA ?_
     exact arg1 [some 0,some 1,some 2,some 3,some 4,some 5,some 6,some 7,some 8] [.box [.mp 1,.mp 2,.mp 3,.mp 4,.mp 5,.o 6 0 R1.length c1,.o 7 0 R2.length c2],mSP (jlF 0 js bl) js.length,mSS rl rk,mSS sp spk,mSI lf lfk,mSI us usk,.arr 3 1 c1 (nR R1),.arr 31 1 c2 (nR R2),.pool (plF jbP js bl)] (q:=⟨congrArg (fun z=>AV.c (I z)) (by simp[rfE,hsg,hlf,g1]),rfl⟩)
    refine WA ?_
    exact arg1 [some 0,some 1,some 2,some 3,some 4,some 5,some 6,some 7,some 8] [.box [.mp 1,.mp 2,.mp 3,.mp 4,.mp 5,.o 6 0 R1.length c1,.o 7 0 R2.length c2],mSP (jlF 0 js bl) js.length,mSS rl rk,mSS sp spk,mSI lf lfk,mSI us usk,.arr 3 1 c1 (nR R1),.arr 31 1 c2 (nR R2),.pool (plF jbP js bl)] (q:=⟨congrArg (fun z=>AV.c (I z)) (by simp[rfE,hsg,hlf,g1]),rfl⟩)
  refine WA ?_
  refine za rfl ?_
  refine WA ?_
  refine za rfl ?_
  refine WA ?_
  refine za rfl ?_
  refine WA ?_
  refine za rfl ?_
  refine WA ?_
  refine za rfl ?_
  refine WA ?_
  refine za rfl ?_
  refine WA ?_
  exact arg1 [some 0,some 1,some 2,some 3,some 4,some 5,some 6,some 7,some 8] [.box [.mp 1,.mp 2,.mp 3,.mp 4,.mp 5,.o 6 0 R1.length c1,.o 7 0 R2.length c2],mSP (jlF 0 js bl) js.length,mSS rl rk,mSS sp spk,mSI lf lfk,mSI us usk,.arr 3 1 c1 (nR R1),.arr 31 1 c2 (nR R2),.pool (plF jbP js bl)] (q:=⟨congrArg (fun z=>AV.c (I z)) (by simp[rfE,h1,h2,h3,h4,h5,h6]),rfl⟩)
end Go.Proofs.YtophoepbedlhjaaGreatDoor
