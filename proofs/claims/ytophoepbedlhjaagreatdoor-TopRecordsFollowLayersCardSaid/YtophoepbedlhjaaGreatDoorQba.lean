/- Books of jobs, by value: note. -/
import Derived.Test.YtophoepbedlhjaaGreatDoorQaz
import Derived.Test.YtophoepbedlhjaaGreatDoorQas
set_option linter.unusedSimpArgs false
set_option linter.unusedVariables false
namespace Go.Proofs.YtophoepbedlhjaaGreatDoor
open Go Go.RowKit
theorem zs7 {α:Type} {p:α→Bool} {y:α}:∀{l:List α} {i:Nat},fndI p (l++[y]) i=match fndI p l i with|some k=>some k|none=>if p y=true then some (i+l.length) else none
 | [],i=>by simp[fndI]
 | x :: l,i=>by
  simp only[List.cons_append,fndI]
  split
  ·rfl
  ·rw[zs7]
   cases fndI p l (i+1) with
   | some k=>rfl
   | none=>
    simp only[List.length_cons]
    rw[show i+1+l.length=i+(l.length+1) by omega]
theorem zq4 {α:Type} {p:α→Bool}:∀{l l':List α} {i:Nat},l.map p=l'.map p→fndI p l i=fndI p l' i
 | [],[],_,_=>rfl
 | [],_ :: _,_,h=>by simp at h
 | _ :: _,[],_,h=>by simp at h
 | x :: l,y :: l',i,h=>by
  simp only[List.map_cons,List.cons.injEq] at h
  simp only[fndI]
  rw[h.1,zq4 h.2]
theorem zn5 {α β:Type} {g:α→β} {f:α→α} (h:∀x,g (f x)=g x) (l:List α) (k:Nat):(l.modify k f).map g=l.map g:=by
 refine List.ext_getElem? fun i=>?_
 rw[List.getElem?_map,List.getElem?_map,List.getElem?_modify]
 cases l[i]? with
 | none=>rfl
 | some x=>by_cases hk:k=i <;> simp[hk,h]
theorem RunOk.begin {js:List Jb} {rl:List (Nat × List UInt8 × List UInt8)} {rk:Nat} {j:Jb} (h:RunOk js rl) (hs:j.st=0) (hr:runI js j.pr=none):RunOk (js++[j]) (mset rk j.pr j.nm rl):=fun s=>by
 rw[zK1]
 unfold runI
 rw[zs7]
 by_cases hp:s=j.pr
 ·subst hp
  have h1:fndI (fun x:Jb=>decide (x.pr=j.pr) && decide (x.st=0)) js 0=none:=hr
  rw[if_pos rfl,h1]
  simp[hs]
 ·rw[if_neg hp,h s]
  have:(decide (j.pr=s) && decide (j.st=0))=false:=by simp[Ne.symm hp]
  rw[this]
  unfold runI
  cases hq:fndI (fun x:Jb=>decide (x.pr=s) && decide (x.st=0)) js 0 with
  | none=>rfl
  | some k=>
   obtain⟨_,x,hx,_⟩:=zM2 hq
   have hk:k < js.length:=(List.getElem?_eq_some_iff.1 (by simpa using hx)).1
   simp only[Option.bind_some]
   rw[List.getElem?_append_left hk]
theorem RunOk.lay {js:List Jb} {rl:List (Nat × List UInt8 × List UInt8)} (h:RunOk js rl) (p:List UInt8) (t:Int):RunOk (layJ js p t) rl:=fun s=>by
 unfold layJ
 split
 ·rename_i k hk
  have h1:runI (js.modify k fun j=>{ j with ly:=j.ly++[t] }) s=runI js s:=zq4 (zn5 (g:=fun j:Jb=>decide (j.pr=s) && decide (j.st=0)) (f:=fun j=>{ j with ly:=j.ly++[t] }) (fun _=>rfl) js k)
  rw[h s,h1]
  cases runI js s with
  | none=>rfl
  | some q=>
   simp only[Option.bind_some]
   rw[List.getElem?_modify]
   cases js[q]? with
   | none=>rfl
   | some x=>by_cases hkq:k=q <;> simp[hkq]
 ·exact h s
theorem zK2 {js:List Jb} {k i:Nat} {f:Jb→Jb} {a:Jb} (h:(js.modify k f)[i]?=some a):∃b,js[i]?=some b∧a=if k=i then f b else b:=by
 rw[List.getElem?_modify] at h
 cases hb:js[i]? with
 | none=>rw[hb] at h;simp at h
 | some b=>
  rw[hb] at h
  simp only[Option.map_eq_map,Option.map_some,Option.some.injEq] at h
  exact⟨b,rfl,h.symm⟩
theorem RunOk.stop {js:List Jb} {rl:List (Nat × List UInt8 × List UInt8)} (h:RunOk js rl) (hJ:JsOk js) (hn:(rl.map (·.2.1)).Nodup) {p:List UInt8} {k:Nat} (hr:runI js p=some k) (s t:Int) (hs:s≠0):RunOk (stopJ js p s t) (mdel p rl):=fun q=>by
 rw[zk7 hn]
 have he:stopJ js p s t=js.modify k fun j=>{ j with st:=s,en:=t }:=by unfold stopJ;rw[hr]
 rw[he]
 obtain⟨j,hj,hjp,hjs⟩:=zG1 hr
 by_cases hq:q=p
 ·subst hq
  rw[if_pos rfl]
  have:runI (js.modify k fun j=>{ j with st:=s,en:=t }) q=none:=ze8 fun x hx=>by
   obtain⟨i,hi⟩:=List.mem_iff_getElem?.1 hx
   obtain⟨b,hb,rfl⟩:=zK2 hi
   by_cases hki:k=i
   ·rw[if_pos hki];simp[hs]
   ·rw[if_neg hki]
    by_cases hb2:b.pr=q∧b.st=0
    ·exact absurd (hJ.pr k i j b hj hb (hjp.trans hb2.1.symm) hjs hb2.2) hki
    ·simp only[Bool.and_eq_false_iff,decide_eq_false_iff_not]
     by_cases hb3:b.pr=q
     ·exact .inr fun h=>hb2 ⟨hb3,h⟩
     ·exact .inl hb3
  rw[this];rfl
 ·rw[if_neg hq,h q]
  have h1:∀x:Jb,x∈js→x.pr=p→True:=fun _ _ _=>trivial
  have h2:runI (js.modify k fun j=>{ j with st:=s,en:=t }) q=runI js q:=by
   refine zq4 (List.ext_getElem? fun i=>?_)
   rw[List.getElem?_map,List.getElem?_map,List.getElem?_modify]
   cases hb:js[i]? with
   | none=>rfl
   | some b=>
    by_cases hki:k=i
    ·subst hki
     rw[hj] at hb
     injection hb with hb
     subst hb
     simp[hjp,Ne.symm hq]
    ·simp[hki]
  rw[h2]
  cases runI js q with
  | none=>rfl
  | some i=>
   simp only[Option.bind_some]
   rw[List.getElem?_modify]
   cases js[i]? with
   | none=>rfl
   | some x=>by_cases hki:k=i <;> simp[hki]
theorem JsOk.begin {js:List Jb} {j:Jb} (h:JsOk js) (h1:nmI js j.nm=none) (h2:runI js j.pr=none) (h3:j.st=0) (h4:j.nm≠[]) (h5:j.ly = []) (h6:0≤j.all∧j.all≤1000):JsOk (js++[j]):=by
 have hat:∀(i:Nat) (a:Jb),(js++[j])[i]?=some a→(i < js.length∧js[i]?=some a)∨(i=js.length∧a=j):=fun i a ha=>by
  rcases Nat.lt_or_ge i js.length with hi|hi
  ·rw[List.getElem?_append_left hi] at ha;exact .inl ⟨hi,ha⟩
  ·rw[List.getElem?_append_right hi] at ha
   cases hq:i - js.length with
   | succ n=>rw[hq] at ha;simp at ha
   | zero=>
    rw[hq] at ha
    simp only[List.getElem?_cons_zero,Option.some.injEq] at ha
    exact .inr ⟨by omega,ha.symm⟩
 refine⟨fun i k a b ha hb he=>?_,fun i k a b ha hb he hs1 hs2=>?_,fun a ha=>?_,fun a ha=>?_,fun a ha=>?_⟩
 ·rcases hat i a ha with⟨_,ha2⟩|⟨q1,q2⟩ <;> rcases hat k b hb with⟨_,hb2⟩|⟨p1,p2⟩
  ·exact h.nm i k a b ha2 hb2 he
  ·exact absurd (p2▸he.symm) (zW8 h1 a (List.mem_of_getElem? ha2))
  ·exact absurd (q2▸he) (zW8 h1 b (List.mem_of_getElem? hb2))
  ·rw[q1,p1]
 ·rcases hat i a ha with⟨_,ha2⟩|⟨q1,q2⟩ <;> rcases hat k b hb with⟨_,hb2⟩|⟨p1,p2⟩
  ·exact h.pr i k a b ha2 hb2 he hs1 hs2
  ·exact absurd ⟨p2▸he,hs1⟩ (zX6 h2 a (List.mem_of_getElem? ha2))
  ·exact absurd ⟨q2▸he.symm,hs2⟩ (zX6 h2 b (List.mem_of_getElem? hb2))
  ·rw[q1,p1]
 ·rcases List.mem_append.1 ha with ha|ha
  ·exact h.st a ha
  ·rw[List.mem_singleton.1 ha];exact .inl h3
 ·rcases List.mem_append.1 ha with ha|ha
  ·exact h.ne a ha
  ·rw[List.mem_singleton.1 ha];exact h4
 ·rcases List.mem_append.1 ha with ha|ha
  ·exact h.all a ha
  ·rw[List.mem_singleton.1 ha,h5];exact h6
theorem JsOk.mod {js:List Jb} {k:Nat} {f:Jb→Jb} {j:Jb} (h:JsOk js) (hk:js[k]?=some j) (hn:∀j,(f j).nm=j.nm) (hp:∀j,(f j).pr=j.pr) (hs:∀a,(f a).st=0→a.st=0) (h1:(f j).st=0∨(f j).st=1∨(f j).st=2) (h2:((f j).ly.length:Int)≤(f j).all∧(f j).all≤1000):JsOk (js.modify k f):=by
 refine⟨fun i q a b ha hb he=>?_,fun i q a b ha hb he hs1 hs2=>?_,fun a ha=>?_,fun a ha=>?_,fun a ha=>?_⟩
 ·obtain⟨a',ha',rfl⟩:=zK2 ha
  obtain⟨b',hb',rfl⟩:=zK2 hb
  refine h.nm i q a' b' ha' hb' ?_
  have e1:(if k=i then f a' else a').nm=a'.nm:=by split <;> simp[hn]
  have e2:(if k=q then f b' else b').nm=b'.nm:=by split <;> simp[hn]
  rw[←e1,he,e2]
 ·obtain⟨a',ha',rfl⟩:=zK2 ha
  obtain⟨b',hb',rfl⟩:=zK2 hb
  have e1:(if k=i then f a' else a').pr=a'.pr:=by split <;> simp[hp]
  have e2:(if k=q then f b' else b').pr=b'.pr:=by split <;> simp[hp]
  refine h.pr i q a' b' ha' hb' (by rw[←e1,he,e2]) ?_ ?_
  ·split at hs1
   ·exact hs _ hs1
   ·exact hs1
  ·split at hs2
   ·exact hs _ hs2
   ·exact hs2
 all_goals
  obtain⟨i,hi⟩:=List.mem_iff_getElem?.1 ha
  obtain⟨a',ha',rfl⟩:=zK2 hi
  have hm:=List.mem_of_getElem? ha'
  by_cases hki:k=i
  ·subst hki
   rw[hk] at ha'
   injection ha' with ha'
   subst ha'
   rw[if_pos rfl]
   first|exact h1|(rw[hn];exact h.ne _ hm)|exact h2
  ·rw[if_neg hki]
   first|exact h.st _ hm|exact h.ne _ hm|exact h.all _ hm
end Go.Proofs.YtophoepbedlhjaaGreatDoor
namespace Go.Proofs.YtophoepbedlhjaaGreatDoor
open Go Go.RowKit
end Go.Proofs.YtophoepbedlhjaaGreatDoor
-- NEWM
namespace Go.Proofs.YtophoepbedlhjaaGreatDoor
open Go Go.RowKit
set_option maxRecDepth 100000
structure SpB (lf us:List (Nat × List UInt8 × Int)):Prop where
 l:∀s,0≤(mget lf s).getD 0∧(mget lf s).getD 0≤100000000
 u:∀s,0≤(mget us s).getD 0∧(mget us s).getD 0≤1000000000000
theorem zU7 {f:Jb→Jb} {js js':List Jb} {bl:List Nat} {k b:Nat} {j:Jb} {r:List CV} (hk:js[k]?=some j) (hb:bl[k]?=some b) (hj:js'=js.modify k f) (hr:r=jbP (f j)):(plF jbP js bl).set k (.bx (.pointer (some ⟨b,0,none⟩)) r)=plF jbP js' bl:=by subst hj;subst hr;exact zQ10 hk hb
set_option maxHeartbeats 4000000 in
theorem note_v (js:List Jb) (bl:List Nat) (rl:List (Nat × List UInt8 × List UInt8)) (rk:Nat) (sp:List (Nat × List UInt8 × List UInt8)) (spk:Nat) (lf:List (Nat × List UInt8 × Int)) (lfk:Nat) (us:List (Nat × List UInt8 × Int)) (usk:Nat) (c1 c2:Nat) (R1 R2:List Int) (x:Nt) (hJ:JsOk js) (hbl:bl.length=js.length) (hrl:RunOk js rl) (hrm:MapOk rl rk) (hrf:rfE ⟨js,sp,spk,lf,lfk,us,usk⟩ x=0) (hn0:x.kd=6→0≤x.n∧x.n≤100000000) (hS:SpB lf us):ACallsX true Tryz.prog 133 [.p 0 0 0,noA x] [.box [.mp 1,.mp 2,.mp 3,.mp 4,.mp 5,.o 6 0 R1.length c1,.o 7 0 R2.length c2],mSP (jlF 0 js bl) (js).length,mSS rl rk,mSS sp spk,mSI lf lfk,mSI us usk,.arr 3 1 c1 (nR R1),.arr 31 1 c2 (nR R2),.pool (plF jbP js bl)] fun u H=>u = .t []∧∃(b:Bk) (bl':List Nat) (rl':List (Nat × List UInt8 × List UInt8)) (rk':Nat),b=ntS ⟨js,sp,spk,lf,lfk,us,usk⟩ x∧bl'.length=b.js.length∧RunOk b.js rl'∧MapOk rl' rk'∧H = [.box [.mp 1,.mp 2,.mp 3,.mp 4,.mp 5,.o 6 0 R1.length c1,.o 7 0 R2.length c2],mSP (jlF 0 b.js bl') (b.js).length,mSS rl' rk',mSS b.sp b.spk,mSI b.lf b.lfk,mSI b.us b.usk,.arr 3 1 c1 (nR R1),.arr 31 1 c2 (nR R2),.pool (plF jbP b.js bl')]:=by
 obtain⟨st,no,at_,kn,pr,jb,sn,n,of_,ot⟩:=x
 simp only at hn0
 show ACallsX _ _ _ [.p 0 0 0,.a [.c (T st),.c (I no),.c (I at_),.c (I kn),.c (T pr),.c (T jb),.c (T sn),.c (I n),.c (T of_),.c (I ot)]] _ _
 have hpx:PoolIx 8:=⟨trivial⟩
 refine ze1 true (N:=122) Tryz.func133 rfl rfl (by simp) fun E hE hP=>?_
 refine zB3 ?_
 refine WA ?_
 have hrp:=hrl pr
 rcases hrun:runI js pr with _|k
 ·rw[hrun] at hrp
  have hn1:(mget rl pr).getD [] = []:=by rw[hrp];rfl
  have hj:(mget (jlF 0 js bl) []).getD (.pointer none) = .pointer none:=by rw[zl4 hbl (ze8 fun j hj=>by simpa using (hJ.ne j hj).symm)];rfl
  refine ZZ ?_
  refine zc [(0,none),(1,none),(2,none),(3,none),(4,none),(5,none),(6,none),(7,none),(8,none),(9,none),(10,none),(11,none),(12,none)] zo (by kernel_rfl) ?_
  iterate 10 refine WX2 ?_
  refine ZT rfl (zh5 (k:=pr) (l:=rl) hn1 rfl rfl rfl rfl) ?_
  refine ZT rfl (zf3 (k:=[]) (l:=(jlF 0 js bl)) hj rfl rfl rfl rfl) ?_
  refine WQ ?_
  refine WA ?_
  by_cases h1:kn=1
  ·subst h1
   refine WA ?_
   refine zd rfl ?_
   have hnj:nmI js jb=none:=by
    cases hq:nmI js jb with
    | none=>rfl
    | some q=>simp[rfE,hq] at hrf
   have hmj:=zl4 hbl hnj
   refine ZZ ?_
   refine zc [(0,none),(1,none),(2,none),(3,none),(4,none),(5,none),(6,none),(7,none),(8,none),(9,none),(10,none),(11,some [0,1,2,3,4,5]),(12,some [])] zo (by kernel_rfl) ?_
   iterate 12 refine WX2 ?_
   first|refine al_ghostp (i:=33) rfl fun B3=>?_|refine zH11 (i:=33) rfl fun B3=>?_|refine zJ11 (i:=33) rfl fun B3=>?_
   refine zY rfl rfl (ef_muJ (k:=jb) (l:=jlF 0 js bl) (z:=ptrV B3) rfl rfl rfl rfl rfl rfl) ?_
   rintro _ _ ⟨rfl,rfl⟩
   refine⟨zk, ?_⟩
   refine WQ ?_
   refine ZZ ?_
   refine zc [(0,none),(1,none),(2,none),(3,none),(4,none),(5,none),(6,none),(7,none),(8,some [])] zo (by kernel_rfl) ?_
   iterate 8 refine WX2 ?_
   refine zY rfl rfl (zy6 (k:=pr) (l:=rl) (z:=jb) rfl rfl rfl rfl rfl rfl) ?_
   rintro _ _ ⟨rfl,rfl⟩
   refine⟨zk, ?_⟩
   refine WQ ?_
   refine wk_bind (wk_pute (K:=fun F' H'=>∃g,F'=killF g [10] _∧H'=((List.map (killO g [10]) _).set 10 .dead).set 8 _) (b:=10) (q:=11) (p:=8) (.bx (ptrV B3) (jbP ⟨jb,pr,0,[],n,at_,0⟩)) rfl rfl (by simp) rfl ⟨_,hE,rfl⟩ (fun g hg=>⟨g,rfl,rfl⟩)) ?_
   rintro _ _ ⟨gg,rfl,rfl⟩
   have hpl:plF jbP js bl++[.bx (ptrV B3) (jbP ⟨jb,pr,0,[],n,at_,0⟩)]=plF jbP (js++[⟨jb,pr,0,[],n,at_,0⟩]) (bl++[B3]):=(zV8 hbl).symm
   have hjl:mset js.length jb (ptrV B3) (jlF 0 js bl)=jlF 0 (js++[⟨jb,pr,0,[],n,at_,0⟩]) (bl++[B3]):=by rw[zJ2 hmj,zd9 hbl,Nat.zero_add]
   have hck:mclk js.length jb (jlF 0 js bl)=(js++[(⟨jb,pr,0,[],n,at_,0⟩:Jb)]).length:=by rw[mclk,hmj];simp
   refine wkg [some 0,some 1,some 2,some 3,some 4,some 5,some 6,some 7,some 8] (fun _=>[]) (fun _=>[.box [.mp 1,.mp 2,.mp 3,.mp 4,.mp 5,.o 6 0 R1.length c1,.o 7 0 R2.length c2],mSP (jlF 0 (js++[⟨jb,pr,0,[],n,at_,0⟩]) (bl++[B3])) (js++[(⟨jb,pr,0,[],n,at_,0⟩:Jb)]).length,mSS (mset rk pr jb rl) (mclk rk pr rl),mSS sp spk,mSI lf lfk,mSI us usk,.arr 3 1 c1 (nR R1),.arr 31 1 c2 (nR R2),.pool (plF jbP (js++[⟨jb,pr,0,[],n,at_,0⟩]) (bl++[B3]))]) (fun _=>?_) (hF:=fun _=>.nil) (hH:=by rw[hpl,hjl,hck];exact ZCH)
   exact zQ1 [some 0,some 1,some 2,some 3,some 4,some 5,some 6,some 7,some 8] (fun _=>[.box [.mp 1,.mp 2,.mp 3,.mp 4,.mp 5,.o 6 0 R1.length c1,.o 7 0 R2.length c2],mSP (jlF 0 (js++[⟨jb,pr,0,[],n,at_,0⟩]) (bl++[B3])) (js++[(⟨jb,pr,0,[],n,at_,0⟩:Jb)]).length,mSS (mset rk pr jb rl) (mclk rk pr rl),mSS sp spk,mSI lf lfk,mSI us usk,.arr 3 1 c1 (nR R1),.arr 31 1 c2 (nR R2),.pool (plF jbP (js++[⟨jb,pr,0,[],n,at_,0⟩]) (bl++[B3]))]) (.inr rfl) rfl (by decide) (ZNK rfl) ZCH (fun _=>⟨rfl,⟨_,bl++[B3],_,_,rfl,by simp[ntS,hbl],by simpa [ntS] using RunOk.begin (rk:=rk) (j:=⟨jb,pr,0,[],n,at_,0⟩) hrl rfl hrun,hrm.set _ _,by simp[ntS]⟩⟩)
  by_cases h2:kn=2
  ·subst h2
   simp[rfE,runJ,hrun] at hrf
  by_cases h3:kn=3
  ·subst h3
   simp[rfE,runJ,hrun] at hrf
  by_cases h4:kn=4
  ·subst h4
   simp[rfE,runJ,hrun] at hrf
  by_cases h5:kn=5
  ·subst h5
   refine WA ?_
   refine za rfl ?_
   refine WA ?_
   refine za rfl ?_
   refine WA ?_
   refine za rfl ?_
   refine WA ?_
   refine za rfl ?_
   refine WA ?_
   refine zd rfl ?_
   refine ZZ ?_
   refine zc [(0,none),(1,none),(2,none),(3,none),(4,none),(5,none),(6,none),(7,none),(8,some [])] zo (by kernel_rfl) ?_
   iterate 8 refine WX2 ?_
   refine zY rfl rfl (zy6 (k:=pr) (l:=sp) (z:=sn) rfl rfl rfl rfl rfl rfl) ?_
   rintro _ _ ⟨rfl,rfl⟩
   refine⟨zk, ?_⟩
   refine WQ ?_
   refine ZZ ?_
   refine zc [(0,none),(1,none),(2,none),(3,none),(4,none),(5,none),(6,none),(7,none),(8,some [])] zo (by kernel_rfl) ?_
   iterate 8 refine WX2 ?_
   refine zY rfl rfl (zr4 (k:=sn) (l:=lf) (z:=n) rfl rfl rfl rfl rfl rfl) ?_
   rintro _ _ ⟨rfl,rfl⟩
   refine⟨zk, ?_⟩
   refine WQ ?_
   refine wkg [some 0,some 1,some 2,some 3,some 4,some 5,some 6,some 7,some 8] (fun _=>[]) (fun _=>[.box [.mp 1,.mp 2,.mp 3,.mp 4,.mp 5,.o 6 0 R1.length c1,.o 7 0 R2.length c2],mSP (jlF 0 js bl) (js).length,mSS rl rk,mSS (mset spk pr sn sp) (mclk spk pr sp),mSI (mset lfk sn n lf) (mclk lfk sn lf),mSI us usk,.arr 3 1 c1 (nR R1),.arr 31 1 c2 (nR R2),.pool (plF jbP js bl)]) (fun _=>?_) (hF:=fun _=>.nil)
   exact zQ1 [some 0,some 1,some 2,some 3,some 4,some 5,some 6,some 7,some 8] (fun _=>[.box [.mp 1,.mp 2,.mp 3,.mp 4,.mp 5,.o 6 0 R1.length c1,.o 7 0 R2.length c2],mSP (jlF 0 js bl) (js).length,mSS rl rk,mSS (mset spk pr sn sp) (mclk spk pr sp),mSI (mset lfk sn n lf) (mclk lfk sn lf),mSI us usk,.arr 3 1 c1 (nR R1),.arr 31 1 c2 (nR R2),.pool (plF jbP js bl)]) (.inr rfl) rfl (by decide) (ZNK rfl) ZCH (fun _=>⟨rfl,⟨_,bl,rl,rk,rfl,by simp[ntS,hbl],by simpa [ntS] using hrl,hrm,by simp[ntS]⟩⟩)
  by_cases h6:kn=6
  ·subst h6
   refine WA ?_
   refine za rfl ?_
   refine WA ?_
   refine za rfl ?_
   refine WA ?_
   refine za rfl ?_
   refine WA ?_
   refine za rfl ?_
   refine WA ?_
   refine za rfl ?_
   refine WA ?_
   refine zd rfl ?_
   obtain⟨kk,hs1⟩:∃q,(mget sp pr).getD []=q:=⟨_,rfl⟩
   obtain⟨lv,hlf⟩:∃q,(mget lf kk).getD 0=q:=⟨_,rfl⟩
   obtain⟨uv,hus⟩:∃q,(mget us kk).getD 0=q:=⟨_,rfl⟩
   have hlv:=hS.l kk
   have huv:=hS.u kk
   rw[hlf] at hlv
   rw[hus] at huv
   have hnb:=hn0 rfl
   refine ZZ ?_
   refine zc [(0,none),(1,none),(2,none),(3,none),(4,none),(5,none),(6,none),(7,none)] zo (by kernel_rfl) ?_
   iterate 6 refine WX2 ?_
   refine ZT rfl (zh5 (k:=pr) (l:=sp) hs1 rfl rfl rfl rfl) ?_
   refine WQ ?_
   refine ZZ ?_
   refine zc [(0,none),(1,none),(2,none),(3,none),(4,none),(5,none),(6,none),(7,none),(8,none),(9,some [])] zo (by kernel_rfl) ?_
   iterate 5 refine WX2 ?_
   refine ZT rfl (zf4 (k:=kk) (l:=lf) hlf rfl rfl rfl rfl) ?_
   iterate 3 refine WX2 ?_
   refine zY rfl rfl (zr4 (k:=kk) (l:=lf) (z:=lv - n) rfl rfl rfl rfl rfl rfl) ?_
   rintro _ _ ⟨rfl,rfl⟩
   refine⟨zk, ?_⟩
   refine WQ ?_
   refine ZZ ?_
   refine zc [(0,none),(1,none),(2,none),(3,none),(4,none),(5,none),(6,none),(7,none),(8,none),(9,some [])] zo (by kernel_rfl) ?_
   iterate 5 refine WX2 ?_
   refine ZT rfl (zf4 (k:=kk) (l:=us) hus rfl rfl rfl rfl) ?_
   iterate 3 refine WX2 ?_
   refine zY rfl rfl (zr4 (k:=kk) (l:=us) (z:=uv+n) rfl rfl rfl rfl rfl rfl) ?_
   rintro _ _ ⟨rfl,rfl⟩
   refine⟨zk, ?_⟩
   refine WQ ?_
   refine wkg [some 0,some 1,some 2,some 3,some 4,some 5,some 6,some 7,some 8] (fun _=>[]) (fun _=>[.box [.mp 1,.mp 2,.mp 3,.mp 4,.mp 5,.o 6 0 R1.length c1,.o 7 0 R2.length c2],mSP (jlF 0 js bl) (js).length,mSS rl rk,mSS sp spk,mSI (mset lfk kk (lv - n) lf) (mclk lfk kk lf),mSI (mset usk kk (uv+n) us) (mclk usk kk us),.arr 3 1 c1 (nR R1),.arr 31 1 c2 (nR R2),.pool (plF jbP js bl)]) (fun _=>?_) (hF:=fun _=>.nil)
   exact zQ1 [some 0,some 1,some 2,some 3,some 4,some 5,some 6,some 7,some 8] (fun _=>[.box [.mp 1,.mp 2,.mp 3,.mp 4,.mp 5,.o 6 0 R1.length c1,.o 7 0 R2.length c2],mSP (jlF 0 js bl) (js).length,mSS rl rk,mSS sp spk,mSI (mset lfk kk (lv - n) lf) (mclk lfk kk lf),mSI (mset usk kk (uv+n) us) (mclk usk kk us),.arr 3 1 c1 (nR R1),.arr 31 1 c2 (nR R2),.pool (plF jbP js bl)]) (.inr rfl) rfl (by decide) (ZNK rfl) ZCH (fun _=>⟨rfl,⟨_,bl,rl,rk,rfl,by simp[ntS,hbl],by simpa [ntS] using hrl,hrm,by simp[ntS,hs1,hlf,hus]⟩⟩)
  refine WA ?_
  refine za rfl ?_
  refine WA ?_
  refine za rfl ?_
  refine WA ?_
  refine za rfl ?_
  refine WA ?_
  refine za rfl ?_
  refine WA ?_
  refine za rfl ?_
  refine WA ?_
  refine za rfl ?_
  refine ZZ ?_
  refine wkg [some 0,some 1,some 2,some 3,some 4,some 5,some 6,some 7,some 8] (fun _=>[]) (fun _=>[.box [.mp 1,.mp 2,.mp 3,.mp 4,.mp 5,.o 6 0 R1.length c1,.o 7 0 R2.length c2],mSP (jlF 0 js bl) (js).length,mSS rl rk,mSS sp spk,mSI lf lfk,mSI us usk,.arr 3 1 c1 (nR R1),.arr 31 1 c2 (nR R2),.pool (plF jbP js bl)]) (fun _=>?_) (hF:=fun _=>.nil)
  exact zQ1 [some 0,some 1,some 2,some 3,some 4,some 5,some 6,some 7,some 8] (fun _=>[.box [.mp 1,.mp 2,.mp 3,.mp 4,.mp 5,.o 6 0 R1.length c1,.o 7 0 R2.length c2],mSP (jlF 0 js bl) (js).length,mSS rl rk,mSS sp spk,mSI lf lfk,mSI us usk,.arr 3 1 c1 (nR R1),.arr 31 1 c2 (nR R2),.pool (plF jbP js bl)]) (.inr rfl) rfl (by decide) (ZNK rfl) ZCH (fun _=>⟨rfl,⟨_,bl,rl,rk,rfl,by simp[ntS,h1,h2,h3,h4,h5,h6,hbl],by simpa [ntS,h1,h2,h3,h4,h5,h6] using hrl,hrm,by simp[ntS,h1,h2,h3,h4,h5,h6]⟩⟩)
 ·obtain⟨j,hk,hjp,hjs⟩:=zG1 hrun
  rw[hrun] at hrp
  have hn1:(mget rl pr).getD []=j.nm:=by rw[hrp];simp[hk]
  obtain⟨b0,hb0,hb1⟩:=zq5 hbl (nmI_is hJ hk)
  have hj:(mget (jlF 0 js bl) j.nm).getD (.pointer none)=ptrV b0:=by rw[hb1];rfl
  have hin:InPool k b0 (plF jbP js bl) [T (stW j.st),I j.ly.length,I j.all,I j.beg,I (j.ly.getLast?.getD 0),I j.en]:=⟨zj5 hk hb0⟩
  refine ZZ ?_
  refine zc [(0,none),(1,none),(2,none),(3,none),(4,none),(5,none),(6,none),(7,none),(8,none),(9,none),(10,none),(11,none),(12,none)] zo (by kernel_rfl) ?_
  iterate 10 refine WX2 ?_
  refine ZT rfl (zh5 (k:=pr) (l:=rl) hn1 rfl rfl rfl rfl) ?_
  refine ZT rfl (zf3 (k:=j.nm) (l:=(jlF 0 js bl)) hj rfl rfl rfl rfl) ?_
  refine WQ ?_
  refine WA ?_
  by_cases h1:kn=1
  ·subst h1
   exfalso
   simp only[rfE,if_true,hrun] at hrf
   split at hrf <;> simp at hrf
  by_cases h2:kn=2
  ·subst h2
   refine WA ?_
   refine za rfl ?_
   refine WA ?_
   refine zd rfl ?_
   have hn:n=(j.ly.length:Int)+1:=by
    simp[rfE,runJ,hrun,hk] at hrf
    exact Decidable.byContradiction fun h=>by simp[h] at hrf
   have hlay:layJ js pr at_=js.modify k fun j=>{ j with ly:=j.ly++[at_] }:=by unfold layJ;rw[hrun]
   have hr:[T (stW j.st),I n,I j.all,I j.beg,I at_,I j.en]=jbP { j with ly:=j.ly++[at_] }:=by rw[hn];simp[jbP]
   have hpl:=zU7 hk hb0 hlay hr
   have hjl:jlF 0 js bl=jlF 0 (layJ js pr at_) bl:=by rw[hlay];exact(zp3 (f:=fun j=>{ j with ly:=j.ly++[at_] }) (fun _=>rfl)).symm
   have hlen:js.length=(layJ js pr at_).length:=by rw[hlay];simp
   refine ZZ ?_
   refine zc [(0,none),(1,none),(2,none),(3,none),(4,none),(5,none),(6,none),(7,none),(8,some [1,4,5]),(9,none),(10,none),(11,some [])] zo (by kernel_rfl) ?_
   refine WQ ?_
   all_goals (
    refine wkg [some 0,some 1,some 2,some 3,some 4,some 5,some 6,some 7,some 8] (fun _=>[]) (fun _=>[.box [.mp 1,.mp 2,.mp 3,.mp 4,.mp 5,.o 6 0 R1.length c1,.o 7 0 R2.length c2],mSP (jlF 0 (layJ js pr at_) bl) ((layJ js pr at_)).length,mSS rl rk,mSS sp spk,mSI lf lfk,mSI us usk,.arr 3 1 c1 (nR R1),.arr 31 1 c2 (nR R2),.pool (plF jbP (layJ js pr at_) bl)]) (fun _=>?_) (hF:=fun _=>.nil) (hH:=by rw[←hjl,←hlen,←hpl];simp only[List.set_set];exact ZCH)
    exact zQ1 [some 0,some 1,some 2,some 3,some 4,some 5,some 6,some 7,some 8] (fun _=>[.box [.mp 1,.mp 2,.mp 3,.mp 4,.mp 5,.o 6 0 R1.length c1,.o 7 0 R2.length c2],mSP (jlF 0 (layJ js pr at_) bl) ((layJ js pr at_)).length,mSS rl rk,mSS sp spk,mSI lf lfk,mSI us usk,.arr 3 1 c1 (nR R1),.arr 31 1 c2 (nR R2),.pool (plF jbP (layJ js pr at_) bl)]) (.inr rfl) rfl (by decide) (ZNK rfl) ZCH (fun _=>⟨rfl,_,bl,rl,rk,rfl,by simp[ntS,hbl,hlen],by simpa [ntS] using hrl.lay pr at_,hrm,by simp[ntS]⟩))
  by_cases h3:kn=3
  ·subst h3
   refine WA ?_
   refine za rfl ?_
   refine WA ?_
   refine za rfl ?_
   refine ZZ ?_
   have hlay:stopJ js pr 1 at_=js.modify k fun j=>{ j with st:=1,en:=at_ }:=by unfold stopJ;rw[hrun]
   have hr:[T (stW 1),I j.ly.length,I j.all,I j.beg,I (j.ly.getLast?.getD 0),I at_]=jbP { j with st:=1,en:=at_ }:=rfl
   have hpl:=zU7 hk hb0 hlay hr
   have hjl:jlF 0 js bl=jlF 0 (stopJ js pr 1 at_) bl:=by rw[hlay];exact(zp3 (f:=fun j=>{ j with st:=1,en:=at_ }) (fun _=>rfl)).symm
   have hlen:js.length=(stopJ js pr 1 at_).length:=by rw[hlay];simp
   refine WA ?_
   refine zd rfl ?_
   refine ZZ ?_
   refine zd rfl ?_
   refine ZZ ?_
   refine zc [(0,none),(1,none),(2,none),(3,none),(4,none),(5,none),(6,some [1,2,3]),(7,none),(8,none),(9,some [])] zo (by kernel_rfl) ?_
   refine WQ ?_
   all_goals (
    refine WA ?_
    refine za rfl ?_
    refine ZZ ?_
    refine zc [(0,none),(1,none),(2,none),(3,none),(4,none),(5,none),(6,some [])] zo (by kernel_rfl) ?_
    iterate 6 refine WX2 ?_
    refine zY rfl rfl (zr11 (k:=pr) (l:=rl) rfl rfl rfl rfl rfl) ?_
    rintro _ _ ⟨rfl,rfl⟩
    refine⟨zk, ?_⟩
    refine WQ ?_
    refine wkg [some 0,some 1,some 2,some 3,some 4,some 5,some 6,some 7,some 8] (fun _=>[]) (fun _=>[.box [.mp 1,.mp 2,.mp 3,.mp 4,.mp 5,.o 6 0 R1.length c1,.o 7 0 R2.length c2],mSP (jlF 0 (stopJ js pr 1 at_) bl) ((stopJ js pr 1 at_)).length,mSS (mdel pr rl) rk,mSS sp spk,mSI lf lfk,mSI us usk,.arr 3 1 c1 (nR R1),.arr 31 1 c2 (nR R2),.pool (plF jbP (stopJ js pr 1 at_) bl)]) (fun _=>?_) (hF:=fun _=>.nil) (hH:=by rw[←hjl,←hlen,←hpl];simp only[List.set_set];exact ZCH)
    exact zQ1 [some 0,some 1,some 2,some 3,some 4,some 5,some 6,some 7,some 8] (fun _=>[.box [.mp 1,.mp 2,.mp 3,.mp 4,.mp 5,.o 6 0 R1.length c1,.o 7 0 R2.length c2],mSP (jlF 0 (stopJ js pr 1 at_) bl) ((stopJ js pr 1 at_)).length,mSS (mdel pr rl) rk,mSS sp spk,mSI lf lfk,mSI us usk,.arr 3 1 c1 (nR R1),.arr 31 1 c2 (nR R2),.pool (plF jbP (stopJ js pr 1 at_) bl)]) (.inr rfl) rfl (by decide) (ZNK rfl) ZCH (fun _=>⟨rfl,_,bl,_,_,rfl,by simp[ntS,hbl,hlen],by simpa [ntS] using hrl.stop hJ hrm.nk hrun 1 at_ (by decide),hrm.del pr,by simp[ntS]⟩))
  by_cases h4:kn=4
  ·subst h4
   refine WA ?_
   refine za rfl ?_
   refine WA ?_
   refine za rfl ?_
   refine ZZ ?_
   have hlay:stopJ js pr 2 at_=js.modify k fun j=>{ j with st:=2,en:=at_ }:=by unfold stopJ;rw[hrun]
   have hr:[T (stW 2),I j.ly.length,I j.all,I j.beg,I (j.ly.getLast?.getD 0),I at_]=jbP { j with st:=2,en:=at_ }:=rfl
   have hpl:=zU7 hk hb0 hlay hr
   have hjl:jlF 0 js bl=jlF 0 (stopJ js pr 2 at_) bl:=by rw[hlay];exact(zp3 (f:=fun j=>{ j with st:=2,en:=at_ }) (fun _=>rfl)).symm
   have hlen:js.length=(stopJ js pr 2 at_).length:=by rw[hlay];simp
   refine WA ?_
   refine za rfl ?_
   refine WA ?_
   refine zd rfl ?_
   refine ZZ ?_
   refine zc [(0,none),(1,none),(2,none),(3,none),(4,none),(5,none),(6,some [1,2,3]),(7,none),(8,none),(9,some [])] zo (by kernel_rfl) ?_
   refine WQ ?_
   all_goals (
    refine WA ?_
    refine zd rfl ?_
    refine WA ?_
    refine ZZ ?_
    refine zc [(0,none),(1,none),(2,none),(3,none),(4,none),(5,none),(6,some [])] zo (by kernel_rfl) ?_
    iterate 6 refine WX2 ?_
    refine zY rfl rfl (zr11 (k:=pr) (l:=rl) rfl rfl rfl rfl rfl) ?_
    rintro _ _ ⟨rfl,rfl⟩
    refine⟨zk, ?_⟩
    refine WQ ?_
    refine wkg [some 0,some 1,some 2,some 3,some 4,some 5,some 6,some 7,some 8] (fun _=>[]) (fun _=>[.box [.mp 1,.mp 2,.mp 3,.mp 4,.mp 5,.o 6 0 R1.length c1,.o 7 0 R2.length c2],mSP (jlF 0 (stopJ js pr 2 at_) bl) ((stopJ js pr 2 at_)).length,mSS (mdel pr rl) rk,mSS sp spk,mSI lf lfk,mSI us usk,.arr 3 1 c1 (nR R1),.arr 31 1 c2 (nR R2),.pool (plF jbP (stopJ js pr 2 at_) bl)]) (fun _=>?_) (hF:=fun _=>.nil) (hH:=by rw[←hjl,←hlen,←hpl];simp only[List.set_set];exact ZCH)
    exact zQ1 [some 0,some 1,some 2,some 3,some 4,some 5,some 6,some 7,some 8] (fun _=>[.box [.mp 1,.mp 2,.mp 3,.mp 4,.mp 5,.o 6 0 R1.length c1,.o 7 0 R2.length c2],mSP (jlF 0 (stopJ js pr 2 at_) bl) ((stopJ js pr 2 at_)).length,mSS (mdel pr rl) rk,mSS sp spk,mSI lf lfk,mSI us usk,.arr 3 1 c1 (nR R1),.arr 31 1 c2 (nR R2),.pool (plF jbP (stopJ js pr 2 at_) bl)]) (.inr rfl) rfl (by decide) (ZNK rfl) ZCH (fun _=>⟨rfl,_,bl,_,_,rfl,by simp[ntS,hbl,hlen],by simpa [ntS] using hrl.stop hJ hrm.nk hrun 2 at_ (by decide),hrm.del pr,by simp[ntS]⟩))
  by_cases h5:kn=5
  ·subst h5
   refine WA ?_
   refine za rfl ?_
   refine WA ?_
   refine za rfl ?_
   refine WA ?_
   refine za rfl ?_
   refine WA ?_
   refine za rfl ?_
   refine WA ?_
   refine zd rfl ?_
   refine ZZ ?_
   refine zc [(0,none),(1,none),(2,none),(3,none),(4,none),(5,none),(6,none),(7,none),(8,some [])] zo (by kernel_rfl) ?_
   iterate 8 refine WX2 ?_
   refine zY rfl rfl (zy6 (k:=pr) (l:=sp) (z:=sn) rfl rfl rfl rfl rfl rfl) ?_
   rintro _ _ ⟨rfl,rfl⟩
   refine⟨zk, ?_⟩
   refine WQ ?_
   refine ZZ ?_
   refine zc [(0,none),(1,none),(2,none),(3,none),(4,none),(5,none),(6,none),(7,none),(8,some [])] zo (by kernel_rfl) ?_
   iterate 8 refine WX2 ?_
   refine zY rfl rfl (zr4 (k:=sn) (l:=lf) (z:=n) rfl rfl rfl rfl rfl rfl) ?_
   rintro _ _ ⟨rfl,rfl⟩
   refine⟨zk, ?_⟩
   refine WQ ?_
   refine wkg [some 0,some 1,some 2,some 3,some 4,some 5,some 6,some 7,some 8] (fun _=>[]) (fun _=>[.box [.mp 1,.mp 2,.mp 3,.mp 4,.mp 5,.o 6 0 R1.length c1,.o 7 0 R2.length c2],mSP (jlF 0 js bl) (js).length,mSS rl rk,mSS (mset spk pr sn sp) (mclk spk pr sp),mSI (mset lfk sn n lf) (mclk lfk sn lf),mSI us usk,.arr 3 1 c1 (nR R1),.arr 31 1 c2 (nR R2),.pool (plF jbP js bl)]) (fun _=>?_) (hF:=fun _=>.nil)
   exact zQ1 [some 0,some 1,some 2,some 3,some 4,some 5,some 6,some 7,some 8] (fun _=>[.box [.mp 1,.mp 2,.mp 3,.mp 4,.mp 5,.o 6 0 R1.length c1,.o 7 0 R2.length c2],mSP (jlF 0 js bl) (js).length,mSS rl rk,mSS (mset spk pr sn sp) (mclk spk pr sp),mSI (mset lfk sn n lf) (mclk lfk sn lf),mSI us usk,.arr 3 1 c1 (nR R1),.arr 31 1 c2 (nR R2),.pool (plF jbP js bl)]) (.inr rfl) rfl (by decide) (ZNK rfl) ZCH (fun _=>⟨rfl,⟨_,bl,rl,rk,rfl,by simp[ntS,hbl],by simpa [ntS] using hrl,hrm,by simp[ntS]⟩⟩)
  by_cases h6:kn=6
  ·subst h6
   refine WA ?_
   refine za rfl ?_
   refine WA ?_
   refine za rfl ?_
   refine WA ?_
   refine za rfl ?_
   refine WA ?_
   refine za rfl ?_
   refine WA ?_
   refine za rfl ?_
   refine WA ?_
   refine zd rfl ?_
   obtain⟨kk,hs1⟩:∃q,(mget sp pr).getD []=q:=⟨_,rfl⟩
   obtain⟨lv,hlf⟩:∃q,(mget lf kk).getD 0=q:=⟨_,rfl⟩
   obtain⟨uv,hus⟩:∃q,(mget us kk).getD 0=q:=⟨_,rfl⟩
   have hlv:=hS.l kk
   have huv:=hS.u kk
   rw[hlf] at hlv
   rw[hus] at huv
   have hnb:=hn0 rfl
   refine ZZ ?_
   refine zc [(0,none),(1,none),(2,none),(3,none),(4,none),(5,none),(6,none),(7,none)] zo (by kernel_rfl) ?_
   iterate 6 refine WX2 ?_
   refine ZT rfl (zh5 (k:=pr) (l:=sp) hs1 rfl rfl rfl rfl) ?_
   refine WQ ?_
   refine ZZ ?_
   refine zc [(0,none),(1,none),(2,none),(3,none),(4,none),(5,none),(6,none),(7,none),(8,none),(9,some [])] zo (by kernel_rfl) ?_
   iterate 5 refine WX2 ?_
   refine ZT rfl (zf4 (k:=kk) (l:=lf) hlf rfl rfl rfl rfl) ?_
   iterate 3 refine WX2 ?_
   refine zY rfl rfl (zr4 (k:=kk) (l:=lf) (z:=lv - n) rfl rfl rfl rfl rfl rfl) ?_
   rintro _ _ ⟨rfl,rfl⟩
   refine⟨zk, ?_⟩
   refine WQ ?_
   refine ZZ ?_
   refine zc [(0,none),(1,none),(2,none),(3,none),(4,none),(5,none),(6,none),(7,none),(8,none),(9,some [])] zo (by kernel_rfl) ?_
   iterate 5 refine WX2 ?_
   refine ZT rfl (zf4 (k:=kk) (l:=us) hus rfl rfl rfl rfl) ?_
   iterate 3 refine WX2 ?_
   refine zY rfl rfl (zr4 (k:=kk) (l:=us) (z:=uv+n) rfl rfl rfl rfl rfl rfl) ?_
   rintro _ _ ⟨rfl,rfl⟩
   refine⟨zk, ?_⟩
   refine WQ ?_
   refine wkg [some 0,some 1,some 2,some 3,some 4,some 5,some 6,some 7,some 8] (fun _=>[]) (fun _=>[.box [.mp 1,.mp 2,.mp 3,.mp 4,.mp 5,.o 6 0 R1.length c1,.o 7 0 R2.length c2],mSP (jlF 0 js bl) (js).length,mSS rl rk,mSS sp spk,mSI (mset lfk kk (lv - n) lf) (mclk lfk kk lf),mSI (mset usk kk (uv+n) us) (mclk usk kk us),.arr 3 1 c1 (nR R1),.arr 31 1 c2 (nR R2),.pool (plF jbP js bl)]) (fun _=>?_) (hF:=fun _=>.nil)
   exact zQ1 [some 0,some 1,some 2,some 3,some 4,some 5,some 6,some 7,some 8] (fun _=>[.box [.mp 1,.mp 2,.mp 3,.mp 4,.mp 5,.o 6 0 R1.length c1,.o 7 0 R2.length c2],mSP (jlF 0 js bl) (js).length,mSS rl rk,mSS sp spk,mSI (mset lfk kk (lv - n) lf) (mclk lfk kk lf),mSI (mset usk kk (uv+n) us) (mclk usk kk us),.arr 3 1 c1 (nR R1),.arr 31 1 c2 (nR R2),.pool (plF jbP js bl)]) (.inr rfl) rfl (by decide) (ZNK rfl) ZCH (fun _=>⟨rfl,⟨_,bl,rl,rk,rfl,by simp[ntS,hbl],by simpa [ntS] using hrl,hrm,by simp[ntS,hs1,hlf,hus]⟩⟩)
  refine WA ?_
  refine za rfl ?_
  refine WA ?_
  refine za rfl ?_
  refine WA ?_
  refine za rfl ?_
  refine WA ?_
  refine za rfl ?_
  refine WA ?_
  refine za rfl ?_
  refine WA ?_
  refine za rfl ?_
  refine ZZ ?_
  refine wkg [some 0,some 1,some 2,some 3,some 4,some 5,some 6,some 7,some 8] (fun _=>[]) (fun _=>[.box [.mp 1,.mp 2,.mp 3,.mp 4,.mp 5,.o 6 0 R1.length c1,.o 7 0 R2.length c2],mSP (jlF 0 js bl) (js).length,mSS rl rk,mSS sp spk,mSI lf lfk,mSI us usk,.arr 3 1 c1 (nR R1),.arr 31 1 c2 (nR R2),.pool (plF jbP js bl)]) (fun _=>?_) (hF:=fun _=>.nil)
  exact zQ1 [some 0,some 1,some 2,some 3,some 4,some 5,some 6,some 7,some 8] (fun _=>[.box [.mp 1,.mp 2,.mp 3,.mp 4,.mp 5,.o 6 0 R1.length c1,.o 7 0 R2.length c2],mSP (jlF 0 js bl) (js).length,mSS rl rk,mSS sp spk,mSI lf lfk,mSI us usk,.arr 3 1 c1 (nR R1),.arr 31 1 c2 (nR R2),.pool (plF jbP js bl)]) (.inr rfl) rfl (by decide) (ZNK rfl) ZCH (fun _=>⟨rfl,⟨_,bl,rl,rk,rfl,by simp[ntS,h1,h2,h3,h4,h5,h6,hbl],by simpa [ntS,h1,h2,h3,h4,h5,h6] using hrl,hrm,by simp[ntS,h1,h2,h3,h4,h5,h6]⟩⟩)
end Go.Proofs.YtophoepbedlhjaaGreatDoor
