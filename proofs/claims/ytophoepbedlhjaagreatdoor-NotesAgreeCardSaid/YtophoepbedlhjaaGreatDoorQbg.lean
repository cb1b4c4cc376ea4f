/- copy into an array of the call's own. -/
import Derived.Test.YtophoepbedlhjaaGreatDoorQbf
import Derived.Test.YtophoepbedlhjaaGreatDoorQbe
import Derived.Test.YtophoepbedlhjaaGreatDoorQay
import Derived.Test.YtophoepbedlhjaaGreatDoorQbb
import Derived.Test.YtophoepbedlhjaaGreatDoorProg
import Derived.Test.YtophoepbedlhjaaGreatDoorQak
set_option linter.unusedSimpArgs false
set_option linter.unusedVariables false
namespace Go.Proofs.YtophoepbedlhjaaGreatDoor
open Go Go.RowKit
theorem zm12 {x:Nt} (h:ntF x=0):(x.kd=1→keyB x.jb=true∧1≤x.n∧x.n≤1000)∧(x.kd=2→1≤x.n∧x.n≤1000)∧(x.kd=5→keyB x.sp=true∧1≤x.n∧x.n≤100000000)∧(x.kd=6→1≤x.n∧x.n≤100000000):=by
 unfold ntF at h
 split at h
 ·cases h
 split at h
 ·cases h
 split at h
 ·cases h
 split at h
 ·cases h
 rename_i h4
 split at h
 ·cases h
 rename_i h5
 clear h
 refine⟨fun hk=>?_,fun hk=>?_,fun hk=>?_,fun hk=>?_⟩
 all_goals
  rw[hk] at h4 h5
  simp[uP,uJ,uS,uU,uM,outB] at h4 h5
 ·exact⟨h4.2,by omega,by omega⟩
 ·omega
 ·exact⟨h4.2,by omega,by omega⟩
 ·omega
theorem zB17 {s:List UInt8} (h:keyB s=true):s≠[]:=fun e=>by subst e;simp[keyB] at h
structure BkOk (b:Bk) (k:Nat):Prop where
 js:JsOk b.js
 sp:MapOk b.sp b.spk
 lf:MapOk b.lf b.lfk
 us:MapOk b.us b.usk
 l:∀s,0≤(mget b.lf s).getD 0∧(mget b.lf s).getD 0≤100000000
 u:∀s,0≤(mget b.us s).getD 0∧(mget b.us s).getD 0≤100000000*(k:Int)
theorem BkOk.spb {b:Bk} {k:Nat} (h:BkOk b k) (hk:k≤2000):SpB b.lf b.us:=⟨h.l,fun s=>⟨(h.u s).1,by have:=(h.u s).2;omega⟩⟩
theorem JsOk.nil:JsOk []:=⟨fun i k a b h=>by simp at h,fun i k a b h=>by simp at h,fun j h=>(by cases h),fun j h=>(by cases h),fun j h=>(by cases h)⟩
theorem BkOk.zero:BkOk bk0 0:=⟨JsOk.nil,.nil,.nil,.nil,fun s=>by simp[bk0,mget],fun s=>by simp[bk0,mget]⟩
theorem BkOk.more {b:Bk} {k:Nat} (h:BkOk b k):BkOk b (k+1):=⟨h.js,h.sp,h.lf,h.us,h.l,fun s=>⟨(h.u s).1,by have:=(h.u s).2;omega⟩⟩
theorem JsOk.lay {js:List Jb} (h:JsOk js) {p:List UInt8} {k:Nat} {j:Jb} {t:Int} (hr:runI js p=some k) (hk:js[k]?=some j) (hl:(j.ly.length:Int)+1≤j.all):JsOk (layJ js p t):=by
 unfold layJ
 rw[hr]
 have hm:=List.mem_of_getElem? hk
 exact h.mod hk (fun _=>rfl) (fun _=>rfl) (fun _ h=>h) (h.st j hm) (by have:=(h.all j hm).2;simp;omega)
theorem JsOk.stop {js:List Jb} (h:JsOk js) {p:List UInt8} {k:Nat} {j:Jb} {s t:Int} (hr:runI js p=some k) (hk:js[k]?=some j) (hs:s=1∨s=2):JsOk (stopJ js p s t):=by
 unfold stopJ
 rw[hr]
 have hm:=List.mem_of_getElem? hk
 exact h.mod hk (fun _=>rfl) (fun _=>rfl) (fun _ h=>by simp at h;omega) (.inr hs) (h.all j hm)
theorem zn15 {js:List Jb} {p:List UInt8} {k:Nat} {j:Jb} (hr:runI js p=some k) (hk:js[k]?=some j):runJ js p=some j:=by unfold runJ;rw[hr];exact hk
theorem BkOk.next {b:Bk} {k:Nat} {x:Nt} (h:BkOk b k) (hx:ntF x=0) (hr:rfE b x=0):BkOk (ntS b x) (k+1):=by
 obtain⟨f1,f2,f5,f6⟩:=zm12 hx
 unfold rfE at hr
 unfold ntS
 by_cases h1:x.kd=1
 ·rw[if_pos h1] at hr ⊢
  obtain⟨g1,g2,g3⟩:=f1 h1
  have e1:nmI b.js x.jb=none:=by
   cases hq:nmI b.js x.jb with
   | none=>rfl
   | some q=>simp[hq] at hr
  have e2:runI b.js x.pr=none:=by
   cases hq:runI b.js x.pr with
   | none=>rfl
   | some q=>simp[hq,e1] at hr
  exact⟨h.js.begin e1 e2 rfl (zB17 g1) rfl ⟨show (0:Int)≤x.n by omega,g3⟩,h.sp,h.lf,h.us,h.l,h.more.u⟩
 rw[if_neg h1] at hr ⊢
 by_cases h2:x.kd=2
 ·rw[if_pos h2] at hr ⊢
  cases hq:runI b.js x.pr with
  | none=>simp[runJ,hq] at hr
  | some q=>
   obtain⟨j,hj,_,_⟩:=zl2 hq
   rw[zn15 hq hj] at hr
   simp only at hr
   split at hr
   ·cases hr
   ·rename_i hn
    split at hr
    ·cases hr
    ·rename_i hn2
     exact⟨h.js.lay hq hj (by omega),h.sp,h.lf,h.us,h.l,h.more.u⟩
 rw[if_neg h2] at hr ⊢
 by_cases h3:x.kd=3
 ·rw[if_pos h3] at hr ⊢
  cases hq:runI b.js x.pr with
  | none=>simp[runJ,hq] at hr
  | some q=>
   obtain⟨j,hj,_,_⟩:=zl2 hq
   exact⟨h.js.stop hq hj (.inl rfl),h.sp,h.lf,h.us,h.l,h.more.u⟩
 rw[if_neg h3] at hr ⊢
 by_cases h4:x.kd=4
 ·rw[if_pos h4] at hr ⊢
  cases hq:runI b.js x.pr with
  | none=>simp[hq] at hr
  | some q=>
   obtain⟨j,hj,_,_⟩:=zl2 hq
   exact⟨h.js.stop hq hj (.inr rfl),h.sp,h.lf,h.us,h.l,h.more.u⟩
 rw[if_neg h4] at hr ⊢
 by_cases h5:x.kd=5
 ·rw[if_pos h5] at hr ⊢
  obtain⟨_,g2,g3⟩:=f5 h5
  refine⟨h.js,h.sp.set _ _,h.lf.set _ _,h.us,fun s=>?_,h.more.u⟩
  simp only
  rw[zY]
  split
  ·simp only[Option.getD_some];omega
  ·exact h.l s
 rw[if_neg h5] at hr ⊢
 by_cases h6:x.kd=6
 ·rw[if_pos h6] at hr ⊢
  obtain⟨g2,g3⟩:=f6 h6
  cases hq:mget b.sp x.pr with
  | none=>simp[hq] at hr
  | some kk=>
   simp only[hq] at hr
   have hlf:=h.l kk
   have hus:=h.u kk
   have hn:¬(mget b.lf kk).getD 0 < x.n:=fun h=>by simp[h] at hr
   refine⟨h.js,h.sp,h.lf.set _ _,h.us.set _ _,fun s=>?_,fun s=>?_⟩
   ·simp only[Option.getD_some]
    rw[zY]
    split
    ·simp only[Option.getD_some];omega
    ·exact h.l s
   ·simp only[Option.getD_some]
    rw[zY]
    split
    ·simp only[Option.getD_some];omega
    ·exact h.more.u s
 rw[if_neg h6]
 exact h.more
end Go.Proofs.YtophoepbedlhjaaGreatDoor
-- NEWM
namespace Go.Proofs.YtophoepbedlhjaaGreatDoor
open Go Go.RowKit
set_option maxRecDepth 100000
section
variable {P:Program} {N:Nat} {E:Env} {F:Fm} {H:List OB} {K:Fm→List OB→Prop} {Q:Exit→Fm→List OB→Prop}
end
theorem ze9:∀{js:List Jb} {bl:List Nat} {i:Nat} {e:Nat × List UInt8 × Value},e∈jlF i js bl→∃k j b,js[k]?=some j∧bl[k]?=some b∧e=(i+k,j.nm,ptrV b)
 | [],_,_,_,h=>by simp[jlF] at h
 | _ :: _,[],_,_,h=>by simp[jlF] at h
 | x :: js,d :: bl,i,e,h=>by
  simp only[jlF,List.mem_cons] at h
  rcases h with rfl|h
  ·exact⟨0,x,d,rfl,rfl,rfl⟩
  ·obtain⟨k,j,b,h1,h2,h3⟩:=ze9 h
   exact⟨k+1,j,b,by simpa using h1,by simpa using h2,by rw[h3,show i+1+k=i+(k+1) by omega]⟩
theorem zC14:∀{js:List Jb} {bl:List Nat} {i k:Nat} {j:Jb} {b:Nat},js[k]?=some j→bl[k]?=some b→(i+k,j.nm,ptrV b)∈jlF i js bl
 | [],_,_,_,_,_,h,_=>by simp at h
 | _ :: _,[],_,_,_,_,_,h=>by simp at h
 | x :: js,d :: bl,i,0,j,b,h1,h2=>by
  simp only[List.getElem?_cons_zero,Option.some.injEq] at h1 h2
  subst h1;subst h2
  simp[jlF]
 | x :: js,d :: bl,i,k+1,j,b,h1,h2=>by
  simp only[List.getElem?_cons_succ] at h1 h2
  have:=zC14 (i:=i+1) h1 h2
  rw[show i+1+k=i+(k+1) by omega] at this
  exact List.mem_cons_of_mem _ this
theorem zw4:∀{js:List Jb} {bl:List Nat} {i:Nat},bl.length=js.length→(jlF i js bl).map (·.1)=List.range' i js.length
 | [],[],_,_=>rfl
 | x :: js,d :: bl,i,h=>by
  simp only[jlF,List.map_cons,List.length_cons,List.range'_succ]
  rw[zw4 (by simpa using h)]
 | [],_ :: _,_,h=>by simp at h
 | _ :: _,[],_,h=>by simp at h
theorem zo8:∀{js:List Jb} {bl:List Nat} {i:Nat},bl.length=js.length→(jlF i js bl).map (·.2.1)=js.map Jb.nm
 | [],[],_,_=>rfl
 | x :: js,d :: bl,i,h=>by
  simp only[jlF,List.map_cons]
  rw[zo8 (by simpa using h)]
 | [],_ :: _,_,h=>by simp at h
 | _ :: _,[],_,h=>by simp at h
theorem JsOk.names {js:List Jb} (h:JsOk js):(js.map Jb.nm).Nodup:=by
 rw[List.Nodup,List.pairwise_iff_getElem]
 intro i k hi hk hik
 rw[List.length_map] at hi hk
 rw[List.getElem_map,List.getElem_map]
 exact fun e=>by have:=h.nm i k _ _ (List.getElem?_eq_getElem hi) (List.getElem?_eq_getElem hk) e;omega
theorem zE17 {js:List Jb} {bl:List Nat} (h:JsOk js) (hb:bl.length=js.length):MapOk (jlF 0 js bl) js.length:=
 ⟨fun e he=>by
  obtain⟨k,j,b,h1,_,rfl⟩:=ze9 he
  have:=(List.getElem?_eq_some_iff.1 h1).1
  simpa using this,by rw[zw4 hb];exact List.nodup_range',by rw[zo8 hb];exact h.names⟩
end Go.Proofs.YtophoepbedlhjaaGreatDoor
-- NEWM
namespace Go.Proofs.YtophoepbedlhjaaGreatDoor
open Go Go.RowKit
set_option maxRecDepth 100000
end Go.Proofs.YtophoepbedlhjaaGreatDoor
-- NEWM
namespace Go.Proofs.YtophoepbedlhjaaGreatDoor
open Go Go.RowKit
set_option maxRecDepth 100000
def snB (a b:Nt):Bool:=decide (a.st=b.st) && decide (a.no=b.no)
theorem zQ10 (a b:Nt):ACalls Tryz.prog 80 [noA a,noA b] [] fun u H=>u = .c (B (snB a b))∧H = []:=by
 obtain⟨a0,a1,a2,a3,a4,a5,a6,a7,a8,a9⟩:=a
 obtain⟨c0,c1,c2,c3,c4,c5,c6,c7,c8,c9⟩:=b
 show ACalls _ _ [.a [.c (T a0),.c (I a1),.c (I a2),.c (I a3),.c (T a4),.c (T a5),.c (T a6),.c (I a7),.c (T a8),.c (I a9)],.a [.c (T c0),.c (I c1),.c (I c2),.c (I c3),.c (T c4),.c (T c5),.c (T c6),.c (I c7),.c (T c8),.c (I c9)]] [] fun u H=>u = .c (B (decide (a0=c0) && decide (a1=c1)))∧H = []
 obtain⟨q,hq⟩:∃q,decide (a0=c0)=q:=⟨_,rfl⟩
 rw[hq]
 refine zf (N:=17) Tryz.func80 rfl rfl (by simp) fun E hE=>?_
 cases q
 ·repeat' (first
   | refine ZY ?_
   | refine zo rfl (by assumption) ?_|refine zm rfl (by assumption) ?_|refine zl rfl (fun _=>?_) (fun _=>?_)|refine zj rfl (fun _=>?_) (fun _=>?_)
   | (refine zc (id:=1) ?_
      iterate 4 refine WX1 ?_
      refine ZA (zJ (a:=a0) (b:=c0) hq rfl Tryz.underlying9 rfl rfl) ?_
      refine WE ?_)
   | (refine zc ?_;refine WE ?_))
  exact arz (q:=⟨rfl,rfl⟩)
 ·by_cases h:a1=c1
  ·repeat' (first
    | refine ZY ?_
    | refine zo rfl (by assumption) ?_|refine zm rfl (by assumption) ?_|refine zl rfl (fun _=>?_) (fun _=>?_)|refine zj rfl (fun _=>?_) (fun _=>?_)
    | (refine zc (id:=1) ?_
       iterate 4 refine WX1 ?_
       refine ZA (zJ (a:=a0) (b:=c0) hq rfl Tryz.underlying9 rfl rfl) ?_
       refine WE ?_)
    | (refine zc ?_;refine WE ?_))
   exact arz (q:=⟨by rw[decide_eq_true h];rfl,rfl⟩)
  ·repeat' (first
    | refine ZY ?_
    | refine zo rfl (by assumption) ?_|refine zm rfl (by assumption) ?_|refine zl rfl (fun _=>?_) (fun _=>?_)|refine zj rfl (fun _=>?_) (fun _=>?_)
    | (refine zc (id:=1) ?_
       iterate 4 refine WX1 ?_
       refine ZA (zJ (a:=a0) (b:=c0) hq rfl Tryz.underlying9 rfl rfl) ?_
       refine WE ?_)
    | (refine zc ?_;refine WE ?_))
   exact arz (q:=⟨by rw[decide_eq_false h];rfl,rfl⟩)
theorem zw18 (a b:Nt):ACalls Tryz.prog 79 [noA a,.p 0 0 0] [.box ((noR b).map .c)] fun u H=>u = .c (B (snB a b))∧H = [.box ((noR b).map .c)]:=by
 obtain⟨a0,a1,a2,a3,a4,a5,a6,a7,a8,a9⟩:=a
 obtain⟨c0,c1,c2,c3,c4,c5,c6,c7,c8,c9⟩:=b
 show ACalls _ _ [.a [.c (T a0),.c (I a1),.c (I a2),.c (I a3),.c (T a4),.c (T a5),.c (T a6),.c (I a7),.c (T a8),.c (I a9)],.p 0 0 0] [.box [.c (T c0),.c (I c1),.c (I c2),.c (I c3),.c (T c4),.c (T c5),.c (T c6),.c (I c7),.c (T c8),.c (I c9)]] fun u H=>u = .c (B (snB ⟨a0,a1,a2,a3,a4,a5,a6,a7,a8,a9⟩ ⟨c0,c1,c2,c3,c4,c5,c6,c7,c8,c9⟩))∧H = [.box [.c (T c0),.c (I c1),.c (I c2),.c (I c3),.c (T c4),.c (T c5),.c (T c6),.c (I c7),.c (T c8),.c (I c9)]]
 refine zf (N:=7) Tryz.func79 rfl rfl (by simp) fun E hE=>?_
 refine WA ?_
 refine WR ?_
 refine ze rfl (zz false (fun _=>zQ10 ⟨a0,a1,a2,a3,a4,a5,a6,a7,a8,a9⟩ ⟨c0,c1,c2,c3,c4,c5,c6,c7,c8,c9⟩) rfl .fn rfl (by decide) (by kernel_rfl) rfl (fun _=>.cons (.aL (C0 rfl)) (.cons (.aL (C0 rfl)) .nil)) (by simp)) ?_
 rintro _ _ ⟨_,_,_,⟨rfl,rfl⟩,hF,hH⟩
 (refine NST hF hH ?_;clear hF hH;rintro rfl rfl)
 refine WE ?_
 all_goals exact arg1 [some 0] [.box [.c (T c0),.c (I c1),.c (I c2),.c (I c3),.c (T c4),.c (T c5),.c (T c6),.c (I c7),.c (T c8),.c (I c9)]] (q:=⟨rfl,rfl⟩)
def idxP (p:Nt→Bool):List Nt→Nat→Int
 | [],_=>-1
 | x :: l,i=>if p x=true then i else idxP p l (i+1)
theorem idxP_any {p:Nt→Bool}:∀{l:List Nt} {i:Nat},(0≤idxP p l i↔l.any p=true)
 | [],i=>by simp[idxP]
 | x :: l,i=>by
  unfold idxP
  split
  ·rename_i h;simp[h]
  ·rename_i h;rw[idxP_any];simp[h]
theorem zV13 (fn:FuncId) (hfn:okFn Tryz.prog fn=true) (p:Nt→Bool) (b:Nt) (v:Value) (l:List Nt) (hl:l.length≤1000000000) (hp:∀x∈l,ACalls Tryz.prog fn [noA x,.p 0 0 0] [.box ((noR b).map .c)] fun u H=>u = .c (B (p x))∧H = [.box ((noR b).map .c)]) :
    ACalls Tryz.prog 145 [.c (.r v (noRs l)),.f (.func fn) [.p 0 0 0]] [.box ((noR b).map .c)] fun u H=>u = .c (I (idxP p l 0))∧H = [.box ((noR b).map .c)]:=by
 obtain⟨c0,c1,c2,c3,c4,c5,c6,c7,c8,c9⟩:=b
 change ∀x∈l,ACalls Tryz.prog fn [noA x,.p 0 0 0] [.box [.c (T c0),.c (I c1),.c (I c2),.c (I c3),.c (T c4),.c (T c5),.c (T c6),.c (I c7),.c (T c8),.c (I c9)]] fun u H=>u = .c (B (p x))∧H = [.box [.c (T c0),.c (I c1),.c (I c2),.c (I c3),.c (T c4),.c (T c5),.c (T c6),.c (I c7),.c (T c8),.c (I c9)]] at hp
 show ACalls _ _ _ [.box [.c (T c0),.c (I c1),.c (I c2),.c (I c3),.c (T c4),.c (T c5),.c (T c6),.c (I c7),.c (T c8),.c (I c9)]] fun u H=>u = .c (I (idxP p l 0))∧H = [.box [.c (T c0),.c (I c1),.c (I c2),.c (I c3),.c (T c4),.c (T c5),.c (T c6),.c (I c7),.c (T c8),.c (I c9)]]
 have e1:(noRs l).length=l.length:=by simp
 refine zf (N:=19) Tryz.func145 rfl rfl (by simp) fun E hE=>?_
 refine WA ?_
 refine WA ?_
 refine zq (fun m F H=>∃(k:Nat),m+k=l.length∧idxP p (l.drop k) k=idxP p l 0∧F = [(0,.c (.r v (noRs l))),(1,.f (.func fn) [.p 0 0 0]),(7,.c (I (noRs l).length)),(8,.c (I k))]∧H = [.box [.c (T c0),.c (I c1),.c (I c2),.c (I c3),.c (T c4),.c (T c5),.c (T c6),.c (I c7),.c (T c8),.c (I c9)]]) ?_ ?_
 ·refine wkg [some 0] (fun _=>[(0,.c (.r v (noRs l))),(1,.f (.func fn) [.p 0 0 0]),(7,.c (I (noRs l).length)),(8,.c (I (0:Nat)))]) (fun _=>[.box [.c (T c0),.c (I c1),.c (I c2),.c (I c3),.c (T c4),.c (T c5),.c (T c6),.c (I c7),.c (T c8),.c (I c9)]]) (fun _=>?_)
  exact⟨l.length,0,by omega,rfl,rfl,rfl⟩
 rintro m F H ⟨k,hk,hf,rfl,rfl⟩
 refine WA ?_
 refine zl rfl (fun hlt=>?_) (fun hge=>?_)
 ·obtain⟨x,hx⟩:∃n,l[k]?=some n:=⟨_,List.getElem?_eq_getElem (by omega)⟩
  have hrow0:=zC1 hx
  have hpx:=hp x (List.mem_of_getElem? hx)
  rw[zm3 hx,idxP] at hf
  obtain⟨q,hq⟩:∃q,p x=q:=⟨_,rfl⟩
  rw[hq] at hf hpx
  obtain⟨st,no,at_,kn,pr,jb,sp,n,of_,ot⟩:=x
  have hrow:(noRs l)[k]?=some [T st,I no,I at_,I kn,T pr,T jb,T sp,I n,T of_,I ot]:=hrow0
  refine WA ?_
  refine WR ?_
  refine ze rfl (zO [0] (fun _=>[.box [.c (T c0),.c (I c1),.c (I c2),.c (I c3),.c (T c4),.c (T c5),.c (T c6),.c (I c7),.c (T c8),.c (I c9)]]) false (fun _=>hpx) rfl (.clo rfl) rfl (by decide) hfn rfl (fun _=>.cons (.aL (C0 rfl)) (.cons (.p rfl) .nil)) (by decide) ZCH (by simp)) ?_
  rintro F1 H1 ⟨_,_,_,_,⟨rfl,rfl⟩,hF,hH⟩
  (refine NSU hF hH ?_;clear hF hH;rintro rfl rfl)
  refine WE ?_
  cases q with
  | true=>
   refine zb rfl ?_
   refine WA ?_
   exact arg1 [some 0] [.box [.c (T c0),.c (I c1),.c (I c2),.c (I c3),.c (T c4),.c (T c5),.c (T c6),.c (I c7),.c (T c8),.c (I c9)]] (q:=⟨by rw[←hf];rfl,rfl⟩)
  | false=>
   refine za rfl ?_
   refine WA ?_
   refine wkg [some 0] (fun _=>[(0,.c (.r v (noRs l))),(1,.f (.func fn) [.p 0 0 0]),(7,.c (I (noRs l).length)),(8,.c (I (k+1:Nat)))]) (fun _=>[.box [.c (T c0),.c (I c1),.c (I c2),.c (I c3),.c (T c4),.c (T c5),.c (T c6),.c (I c7),.c (T c8),.c (I c9)]]) (fun _=>?_)
   exact⟨m - 1,by omega,k+1,by omega,by rw[←hf];rfl,rfl,rfl⟩
 refine WA ?_
 exact arg1 [some 0] [.box [.c (T c0),.c (I c1),.c (I c2),.c (I c3),.c (T c4),.c (T c5),.c (T c6),.c (I c7),.c (T c8),.c (I c9)]] (q:=⟨by rw[←hf,List.drop_eq_nil_of_le (by omega)];rfl,rfl⟩)
end Go.Proofs.YtophoepbedlhjaaGreatDoor
-- NEWM
namespace Go.Proofs.YtophoepbedlhjaaGreatDoor
open Go Go.RowKit
set_option maxRecDepth 100000
theorem zn9 (fn:FuncId) (hfn:okFn Tryz.prog fn=true) (p:Nt→Bool) (b:Nt) (v:Value) (l:List Nt) (hl:l.length≤1000000000) (hp:∀x∈l,ACalls Tryz.prog fn [noA x,.p 0 0 0] [.box ((noR b).map .c)] fun u H=>u = .c (B (p x))∧H = [.box ((noR b).map .c)]) :
    ACalls Tryz.prog 78 [.c (.r v (noRs l)),.f (.func fn) [.p 0 0 0]] [.box ((noR b).map .c)] fun u H=>u = .c (B (l.any p))∧H = [.box ((noR b).map .c)]:=by
 have hix:=zV13 fn hfn p b v l hl hp
 obtain⟨c0,c1,c2,c3,c4,c5,c6,c7,c8,c9⟩:=b
 change ACalls _ _ _ [.box [.c (T c0),.c (I c1),.c (I c2),.c (I c3),.c (T c4),.c (T c5),.c (T c6),.c (I c7),.c (T c8),.c (I c9)]] fun u H=>u = .c (I (idxP p l 0))∧H = [.box [.c (T c0),.c (I c1),.c (I c2),.c (I c3),.c (T c4),.c (T c5),.c (T c6),.c (I c7),.c (T c8),.c (I c9)]] at hix
 show ACalls _ _ _ [.box [.c (T c0),.c (I c1),.c (I c2),.c (I c3),.c (T c4),.c (T c5),.c (T c6),.c (I c7),.c (T c8),.c (I c9)]] fun u H=>u = .c (B (l.any p))∧H = [.box [.c (T c0),.c (I c1),.c (I c2),.c (I c3),.c (T c4),.c (T c5),.c (T c6),.c (I c7),.c (T c8),.c (I c9)]]
 refine zf (N:=9) Tryz.func78 rfl rfl (by simp) fun E hE=>?_
 by_cases hs:0≤idxP p l 0
 ·repeat' (first
   | refine ZY ?_
   | refine zo rfl (by assumption) ?_|refine zm rfl (by assumption) ?_|refine zl rfl (fun _=>?_) (fun _=>?_)|refine zj rfl (fun _=>?_) (fun _=>?_)
   | (refine zc (id:=1) ?_
      refine WO ?_
      refine ze rfl (zO [0] (fun _=>[.box [.c (T c0),.c (I c1),.c (I c2),.c (I c3),.c (T c4),.c (T c5),.c (T c6),.c (I c7),.c (T c8),.c (I c9)]]) false (fun _=>hix) rfl .fn rfl (by decide) (by kernel_rfl) rfl ZCH (by decide) ZCH (by simp)) ?_
      rintro F1 H1 ⟨_,_,_,_,⟨rfl,rfl⟩,hF,hH⟩
      (refine NSU hF hH ?_;clear hF hH;rintro rfl rfl)
      refine WE ?_)
   | (refine zc ?_;refine WE ?_))
  exact arg1 [some 0] [.box [.c (T c0),.c (I c1),.c (I c2),.c (I c3),.c (T c4),.c (T c5),.c (T c6),.c (I c7),.c (T c8),.c (I c9)]] (q:=⟨congrArg (fun z=>AV.c (B z)) (idxP_any.1 hs).symm,rfl⟩)
 ·repeat' (first
   | refine ZY ?_
   | refine zo rfl (by assumption) ?_|refine zm rfl (by assumption) ?_|refine zl rfl (fun _=>?_) (fun _=>?_)|refine zj rfl (fun _=>?_) (fun _=>?_)
   | (refine zc (id:=1) ?_
      refine WO ?_
      refine ze rfl (zO [0] (fun _=>[.box [.c (T c0),.c (I c1),.c (I c2),.c (I c3),.c (T c4),.c (T c5),.c (T c6),.c (I c7),.c (T c8),.c (I c9)]]) false (fun _=>hix) rfl .fn rfl (by decide) (by kernel_rfl) rfl ZCH (by decide) ZCH (by simp)) ?_
      rintro F1 H1 ⟨_,_,_,_,⟨rfl,rfl⟩,hF,hH⟩
      (refine NSU hF hH ?_;clear hF hH;rintro rfl rfl)
      refine WE ?_)
   | (refine zc ?_;refine WE ?_))
  exact arg1 [some 0] [.box [.c (T c0),.c (I c1),.c (I c2),.c (I c3),.c (T c4),.c (T c5),.c (T c6),.c (I c7),.c (T c8),.c (I c9)]] (q:=⟨congrArg (fun z=>AV.c (B z)) (Bool.eq_false_iff.2 fun h=>hs (idxP_any.2 h)).symm,rfl⟩)
theorem zn14 {l:List Nt} {x:Nt}:l.any (fun o=>snB o x)=(l.map ky).contains (ky x):=by
 rw[Bool.eq_iff_iff,List.any_eq_true,List.contains_iff_mem,List.mem_map]
 constructor
 ·rintro⟨o,ho,h⟩
  refine⟨o,ho, ?_⟩
  simp[snB] at h
  simp[h]
 ·rintro⟨o,ho,h⟩
  refine⟨o,ho, ?_⟩
  simp at h
  simp[snB,h]
set_option maxHeartbeats 2000000 in
theorem zc8 (v:Value) (l:List Nt) (hl:l.length≤1000000) (hs:∀x∈l,NtS x):ACalls Tryz.prog 23 [.c (.r v (noRs l))] [] fun u H=>u = .c (I (chkN l))∧H = []:=by
 have e1:(noRs l).length=l.length:=by simp
 refine zf (N:=49) Tryz.func23 rfl rfl (by simp) fun E hE=>?_
 refine WA ?_
 refine WA ?_
 refine zl rfl (fun h0=>?_) (fun h0=>?_)
 ·refine WA ?_
  exact arz (q:=⟨by rw[chkN,if_pos (by omega)],rfl⟩)
 have e2:chkN l=if chkA none l≠0 then chkA none l else if (l.map ky).Nodup then 0 else 6:=by rw[chkN,if_neg (by omega)]
 refine WA ?_
 refine zq (fun m F H=>∃(k:Nat),m+k=l.length∧chkA (prv l k) (l.drop k)=chkA none l∧F = [(0,.c (.r v (noRs l))),(11,.c (.r v (noRs l))),(12,.c (I (noRs l).length)),(13,.c (I k))]∧H = []) ?_ ?_
 ·refine wkg [] (fun _=>[(0,.c (.r v (noRs l))),(11,.c (.r v (noRs l))),(12,.c (I (noRs l).length)),(13,.c (I (0:Nat)))]) (fun _=>[]) (fun _=>?_) (hH:=fun _=>.nil)
  exact⟨l.length,0,by omega,rfl,rfl,rfl⟩
 ·rintro m F H ⟨k,hk,hf,rfl,rfl⟩
  refine WA ?_
  refine zl rfl (fun hlt=>?_) (fun hge=>?_)
  ·obtain⟨x,hx⟩:∃n,l[k]?=some n:=⟨_,List.getElem?_eq_getElem (by omega)⟩
   have hrow0:=zC1 hx
   have hxs:=hs x (List.mem_of_getElem? hx)
   rw[zm3 hx,zp3] at hf
   have hpn:=zX9 hx
   obtain⟨st,no,at_,kn,pr,jb,sp,n,of_,ot⟩:=x
   have hrow:(noRs l)[k]?=some [T st,I no,I at_,I kn,T pr,T jb,T sp,I n,T of_,I ot]:=hrow0
   refine WA ?_
   refine WR ?_
   refine ze rfl (zz false (fun _=>zq18 ⟨st,no,at_,kn,pr,jb,sp,n,of_,ot⟩ hxs) rfl .fn rfl (by decide) (by kernel_rfl) rfl (fun _=>.cons (.aL (C0 rfl)) .nil) (by simp)) ?_
   rintro _ _ ⟨_,_,_,⟨rfl,rfl⟩,hF,hH⟩
   (refine NST hF hH ?_;clear hF hH;rintro rfl rfl)
   refine WE ?_
   generalize ntF ⟨st,no,at_,kn,pr,jb,sp,n,of_,ot⟩=e at hf ⊢
   refine WA ?_
   refine zl rfl (fun h1=>?_) (fun h1=>?_)
   ·rw[if_pos h1] at hf
    refine WA ?_
    exact arz (q:=⟨by rw[e2,←hf,if_pos h1],rfl⟩)
   rw[if_neg h1] at hf
   refine ZZ ?_
   obtain⟨q,hq⟩:∃q,badO (prv l k) ⟨st,no,at_,kn,pr,jb,sp,n,of_,ot⟩=q:=⟨_,rfl⟩
   rw[hq] at hf
   refine zE1 (fun F H=>∃p,F = [(0,.c (.r v (noRs l))),(11,.c (.r v (noRs l))),(12,.c (I (noRs l).length)),(13,.c (I k)),(34,.c (B q))]∧H = [.box p]) ?_ ?_ zV2
   ·by_cases hk0:k=0
    ·subst hk0
     have hq':q=false:=hq.symm
     subst hq'
     refine ZZ ?_
     refine zd [(0,none),(1,none),(2,none),(3,none),(4,none),(5,none),(6,none),(7,none),(8,none),(9,some []),(10,none),(11,none)] zn (by kernel_rfl) ?_
     refine WP ?_
     first|refine zF3 rfl rfl rfl (by decide) ⟨zh, ?_⟩|(refine zG3 rfl (zz false (fun _=>zf7 ⟨st,no,at_,kn,pr,jb,sp,n,of_,ot⟩ ⟨st,no,at_,kn,pr,jb,sp,n,of_,ot⟩) rfl .fn rfl (by decide) (by kernel_rfl) rfl (fun _=>.cons (.aL (C0 rfl)) (.cons (.aL (C0 rfl)) .nil)) (by simp)) ?_;rintro _ _ ⟨_,_,_,⟨rfl,rfl⟩,hF,hH⟩;(refine NST hF hH ?_;clear hF hH;rintro rfl rfl);refine⟨zh, ?_⟩)
     refine WQ ?_
     all_goals refine wkg [some 0] (fun _=>[(0,.c (.r v (noRs l))),(11,.c (.r v (noRs l))),(12,.c (I (noRs l).length)),(13,.c (I (0:Nat))),(34,.c (B false))]) (fun _=>[.box [.c (T st),.c (I no),.c (I at_),.c (I kn),.c (T pr),.c (T jb),.c (T sp),.c (I n),.c (T of_),.c (I ot)]]) (fun _=>?_)
     all_goals exact⟨_,rfl,rfl⟩
    ·obtain⟨y,hy⟩:∃n,l[k - 1]?=some n:=⟨_,List.getElem?_eq_getElem (by omega)⟩
     have hkp:(0:Int) < (k:Int):=by omega
     have hpy:prv l k=some y:=by unfold prv;rw[if_neg hk0];exact hy
     rw[hpy] at hq
     have hq':decide (0≤cmpNt y ⟨st,no,at_,kn,pr,jb,sp,n,of_,ot⟩)=q:=hq
     have hrowy0:=zC1 hy
     have hk1:((k:Int) - 1)=((k - 1:Nat):Int):=by omega
     obtain⟨y0,y1,y2,y3,y4,y5,y6,y7,y8,y9⟩:=y
     have hrowy:(noRs l)[k - 1]?=some [T y0,I y1,I y2,I y3,T y4,T y5,T y6,I y7,T y8,I y9]:=hrowy0
     refine ZZ ?_
     refine zd [(0,none),(1,none),(2,none),(3,none),(4,none),(5,none),(6,none),(7,none),(8,none),(9,some []),(10,none),(11,none)] zn (by kernel_rfl) ?_
     refine WP ?_
     first|refine zF3 rfl rfl rfl (by decide) ⟨zh, ?_⟩|(refine zG3 rfl (zz false (fun _=>zf7 ⟨y0,y1,y2,y3,y4,y5,y6,y7,y8,y9⟩ ⟨st,no,at_,kn,pr,jb,sp,n,of_,ot⟩) rfl .fn rfl (by decide) (by kernel_rfl) rfl (fun _=>.cons (.aL (C0 rfl)) (.cons (.aL (C0 rfl)) .nil)) (by simp)) ?_;rintro _ _ ⟨_,_,_,⟨rfl,rfl⟩,hF,hH⟩;(refine NST hF hH ?_;clear hF hH;rintro rfl rfl);refine⟨zh, ?_⟩)
     refine WQ ?_
     all_goals refine wkg [some 0] (fun _=>[(0,.c (.r v (noRs l))),(11,.c (.r v (noRs l))),(12,.c (I (noRs l).length)),(13,.c (I k)),(34,.c (B q))]) (fun _=>[.box [.c (T st),.c (I no),.c (I at_),.c (I kn),.c (T pr),.c (T jb),.c (T sp),.c (I n),.c (T of_),.c (I ot)]]) (fun _=>?_)
     all_goals exact⟨_,rfl,rfl⟩
   rintro F H ⟨p,rfl,rfl⟩
   cases q with
   | true=>
    refine zb rfl ?_
    refine WA ?_
    exact arz (q:=⟨by rw[e2,←hf];rfl,rfl⟩)
   | false=>
    refine za rfl ?_
    refine WA ?_
    refine wkg [] (fun _=>[(0,.c (.r v (noRs l))),(11,.c (.r v (noRs l))),(12,.c (I (noRs l).length)),(13,.c (I (k+1:Nat)))]) (fun _=>[]) (fun _=>?_) (hH:=fun _=>.nil)
    exact⟨m - 1,by omega,k+1,by omega,by rw[hpn,←hf];rfl,rfl,rfl⟩
  have h0':chkA none l=0:=by rw[←hf,List.drop_eq_nil_of_le (by omega),zA7]
  rw[if_neg (by rw[h0'];simp)] at e2
  refine WA ?_
  refine zq (fun m F H=>∃(k:Nat),m+k=l.length∧((l.take k).map ky).Nodup∧F = [(0,.c (.r v (noRs l))),(36,.c (.r v (noRs l))),(37,.c (I (noRs l).length)),(38,.c (I k))]∧H = []) ?_ ?_
  ·refine wkg [] (fun _=>[(0,.c (.r v (noRs l))),(36,.c (.r v (noRs l))),(37,.c (I (noRs l).length)),(38,.c (I (0:Nat)))]) (fun _=>[]) (fun _=>?_) (hH:=fun _=>.nil)
   exact⟨l.length,0,by omega,by simp,rfl,rfl⟩
  ·rintro m F H ⟨k,hk,hd,rfl,rfl⟩
   refine WA ?_
   refine zl rfl (fun hlt=>?_) (fun hge=>?_)
   ·obtain⟨x,hx⟩:∃n,l[k]?=some n:=⟨_,List.getElem?_eq_getElem (by omega)⟩
    have hrow0:=zC1 hx
    have hmt:=zA5 hx
    have hcf0:=fun v'=>zn9 79 (by kernel_rfl) (fun o=>snB o x) x v' (l.take k) (by rw[List.length_take];omega) (fun o _=>zw18 o x)
    rw[zn14] at hcf0
    obtain⟨q,hq⟩:∃q,((l.take k).map ky).contains (ky x)=q:=⟨_,rfl⟩
    rw[hq] at hcf0
    obtain⟨st,no,at_,kn,pr,jb,sp,n,of_,ot⟩:=x
    have hrow:(noRs l)[k]?=some [T st,I no,I at_,I kn,T pr,T jb,T sp,I n,T of_,I ot]:=hrow0
    have hcf:∀v',ACalls Tryz.prog 78 [.c (.r v' (noRs (l.take k))),.f (.func 79) [.p 0 0 0]] [.box [.c (T st),.c (I no),.c (I at_),.c (I kn),.c (T pr),.c (T jb),.c (T sp),.c (I n),.c (T of_),.c (I ot)]] fun u H=>u = .c (B q)∧H = [.box [.c (T st),.c (I no),.c (I at_),.c (I kn),.c (T pr),.c (T jb),.c (T sp),.c (I n),.c (T of_),.c (I ot)]]:=hcf0
    refine WA ?_
    refine ZR ?_
    iterate 2 refine WX1 ?_
    refine zT3 rfl rfl (by decide) (zj5 (e:=37) (sz:=10) (l:=0) (h:=k) rfl (by kernel_rfl) rfl (by intro row hr;obtain⟨s,-,rfl⟩:=List.mem_map.1 hr;rfl) (.inl ⟨rfl,rfl⟩) (.inr ⟨_,_,_,rfl,rfl,rfl⟩) (by omega) (by omega)) ?_
    simp only[List.drop_zero]
    rw[←List.map_take]
    refine WO ?_
    refine ze rfl (zO [0] (fun _=>[.box [.c (T st),.c (I no),.c (I at_),.c (I kn),.c (T pr),.c (T jb),.c (T sp),.c (I n),.c (T of_),.c (I ot)]]) false (fun _=>hcf _) rfl .fn rfl (by decide) (by kernel_rfl) rfl ZCH (by decide) ZCH (by simp)) ?_
    rintro F1 H1 ⟨_,_,_,_,⟨rfl,rfl⟩,hF,hH⟩
    (refine NSU hF hH ?_;clear hF hH;rintro rfl rfl)
    refine WE ?_
    cases q with
    | true=>
     refine zb rfl ?_
     refine WA ?_
     refine arz (q:=⟨?_,rfl⟩)
     rw[e2,if_neg]
     intro hn
     rw[←List.take_append_drop (k+1) l,List.map_append,hmt] at hn
     have h3:=(List.nodup_append.1 (List.nodup_append.1 hn).1).2.2
     have h4:=List.contains_iff_mem.1 hq
     exact h3 _ h4 _ (List.mem_singleton.2 rfl) rfl
    | false=>
     refine za rfl ?_
     refine WA ?_
     refine wkg [] (fun _=>[(0,.c (.r v (noRs l))),(36,.c (.r v (noRs l))),(37,.c (I (noRs l).length)),(38,.c (I (k+1:Nat)))]) (fun _=>[]) (fun _=>?_) (hH:=fun _=>.nil)
     refine⟨m - 1,by omega,k+1,by omega, ?_,rfl,rfl⟩
     rw[hmt]
     refine List.nodup_append.2 ⟨hd,by simp,fun a ha b hb e=>?_⟩
     rw[List.mem_singleton] at hb
     subst hb;subst e
     rw[List.contains_iff_mem.2 ha] at hq;cases hq
   refine WA ?_
   refine arz (q:=⟨?_,rfl⟩)
   rw[List.take_of_length_le (by omega)] at hd
   rw[e2,if_pos hd]
end Go.Proofs.YtophoepbedlhjaaGreatDoor
-- NEWM
namespace Go.Proofs.YtophoepbedlhjaaGreatDoor
open Go Go.RowKit
set_option maxRecDepth 100000
def OkR (sz:Nat) (R:List (List CV)):Prop:=∀row∈R,row.length=sz∧∀u∈row,u.one=true
theorem zH15 {α:Type} {f:α→List CV} {sz:Nat} (h:∀x,(f x).length=sz∧∀u∈f x,u.one=true) (l:List α):OkR sz (l.map f):=fun row hr=>by
 obtain⟨x,-,rfl⟩:=List.mem_map.1 hr
 exact h x
theorem okNo (l:List Nt):OkR 10 (noRs l):=zH15 (f:=noR) (sz:=10) (fun x=>⟨rfl,fun u hu=>by
 simp only[noR,List.mem_cons,List.not_mem_nil,or_false] at hu
 rcases hu with rfl|rfl|rfl|rfl|rfl|rfl|rfl|rfl|rfl|rfl <;> rfl⟩) l
theorem zf14 (R:List (List CV)) (v:Value) (hR:OkR 10 R) (hl:R.length≤1000000):ACalls Tryz.prog 41 [.c (.r v R)] [] fun u H=>∃c:Nat,R.length≤c∧u = .o 0 0 R.length c∧H = [.arr 37 10 c R]:=by
 refine zf (N:=8) Tryz.func41 rfl rfl (by simp) fun E hE=>?_
 refine zB16 (t:=0) rfl fun hnil=>?_
 refine WA ?_
 refine WA ?_
 refine zj rfl (fun h=>?_) (fun h=>?_)
 ·obtain rfl:R = []:=hnil h
  refine WA ?_
  exact zA (us:=[.c (.r (.slice none 0 0) [])]) [none] (fun _=>.o 0 0 0 0) (fun _=>[.arr 37 10 0 []]) (.tmp rfl .nil) (by decide) (ZNK rfl) (fun _=>.nil rfl) ZCH (fun _=>⟨0,by simp,rfl,rfl⟩)
 ·refine WR ?_
  refine ze rfl (Zapp (hE:=KA (t:=38) rfl) (hsrc:=.ro (fun r h=>(hR r h).1) (fun r h=>(hR r h).2))) ?_
  rintro _ _ ⟨_,cc,hcc,rfl,rfl⟩
  refine WE ?_
  exact zN4 [some 0] (fun _=>[.arr 37 10 cc R]) rfl rfl rfl (by simp) rfl (by decide) (ZNK rfl) ZCH (fun _=>⟨cc,by omega,rfl,rfl⟩)
end Go.Proofs.YtophoepbedlhjaaGreatDoor
-- NEWM
namespace Go.Proofs.YtophoepbedlhjaaGreatDoor
open Go Go.RowKit
set_option maxRecDepth 100000
end Go.Proofs.YtophoepbedlhjaaGreatDoor
namespace Go.Proofs.YtophoepbedlhjaaGreatDoor
open Go Go.Shelf
set_option maxRecDepth 100000
end Go.Proofs.YtophoepbedlhjaaGreatDoor
-- NEWM
namespace Go.Proofs.YtophoepbedlhjaaGreatDoor
open Go Go.RowKit Go.Shelf
set_option maxRecDepth 100000
def zP10:Go.Shelf.Ren:=⟨fun|6=>95|15=>135|14=>162|28=>215|29=>216|20=>198|21=>248|22=>249|23=>250|24=>251|25=>252|26=>253|27=>254|46=>314|47=>293|48=>294|49=>315|50=>316|57=>364|n=>n,fun|22=>38|24=>37|25=>125|3=>3|39=>211|0=>0|53=>274|55=>277|4=>4|46=>286|45=>285|50=>166|5=>5|9=>9|66=>360|70=>364|76=>417|77=>418|n=>n,fun|n=>n⟩
theorem sortNL:Go.Proofs.SlLaysF0.n6 Tryz.prog zP10:={
 mixed:=by kernel_rfl
 f6:=⟨Tryz.f95.name,by decide,Tryz.func95.trans (congrArg some (by kernel_rfl))⟩
 f14:=⟨Tryz.f162.name,by decide,Tryz.func162.trans (congrArg some (by kernel_rfl))⟩
 f15:=Tryz.func135.trans (congrArg some (by kernel_rfl))
 f20:=⟨Tryz.f198.name,by decide,Tryz.func198.trans (congrArg some (by kernel_rfl))⟩
 f21:=⟨Tryz.f248.name,by decide,Tryz.func248.trans (congrArg some (by kernel_rfl))⟩
 f22:=⟨Tryz.f249.name,by decide,Tryz.func249.trans (congrArg some (by kernel_rfl))⟩
 f23:=⟨Tryz.f250.name,by decide,Tryz.func250.trans (congrArg some (by kernel_rfl))⟩
 f24:=⟨Tryz.f251.name,by decide,Tryz.func251.trans (congrArg some (by kernel_rfl))⟩
 f25:=⟨Tryz.f252.name,by decide,Tryz.func252.trans (congrArg some (by kernel_rfl))⟩
 f26:=⟨Tryz.f253.name,by decide,Tryz.func253.trans (congrArg some (by kernel_rfl))⟩
 f27:=⟨Tryz.f254.name,by decide,Tryz.func254.trans (congrArg some (by kernel_rfl))⟩
 f28:=Tryz.func215.trans (congrArg some (by kernel_rfl))
 f29:=Tryz.func216.trans (congrArg some (by kernel_rfl))
 f46:=⟨Tryz.f314.name,by decide,Tryz.func314.trans (congrArg some (by kernel_rfl))⟩
 f47:=Tryz.func293.trans (congrArg some (by kernel_rfl))
 f48:=Tryz.func294.trans (congrArg some (by kernel_rfl))
 f49:=⟨Tryz.f315.name,by decide,Tryz.func315.trans (congrArg some (by kernel_rfl))⟩
 f50:=⟨Tryz.f316.name,by decide,Tryz.func316.trans (congrArg some (by kernel_rfl))⟩
 f57:=⟨Tryz.f364.name,by decide,Tryz.func364.trans (congrArg some (by kernel_rfl))⟩
 t0:=Tryz.underlying0
 a0:=Tryz.isAgg0
 z0:=Tryz.sizeOf0
 v0:=Tryz.zeroValue0
 t3:=Tryz.underlying3
 a3:=Tryz.isAgg3
 z3:=Tryz.sizeOf3
 v3:=Tryz.zeroValue3
 t4:=Tryz.underlying4
 a4:=Tryz.isAgg4
 z4:=Tryz.sizeOf4
 v4:=Tryz.zeroValue4
 t5:=Tryz.underlying5
 a5:=Tryz.isAgg5
 z5:=Tryz.sizeOf5
 v5:=Tryz.zeroValue5
 t9:=Tryz.underlying9
 a9:=Tryz.isAgg9
 z9:=Tryz.sizeOf9
 v9:=Tryz.zeroValue9
 t22:=Tryz.underlying38
 a22:=Tryz.isAgg38
 z22:=Tryz.sizeOf38
 v22:=Tryz.zeroValue38
 t25:=Tryz.underlying125
 a25:=Tryz.isAgg125
 z25:=Tryz.sizeOf125
 v25:=Tryz.zeroValue125
 t39:=Tryz.underlying211
 a39:=Tryz.isAgg211
 z39:=Tryz.sizeOf211
 v39:=Tryz.zeroValue211
 t45:=Tryz.underlying285
 a45:=Tryz.isAgg285
 z45:=Tryz.sizeOf285
 v45:=Tryz.zeroValue285
 t46:=Tryz.underlying286
 a46:=Tryz.isAgg286
 z46:=Tryz.sizeOf286
 v46:=Tryz.zeroValue286
 t50:=Tryz.underlying166
 a50:=Tryz.isAgg166
 z50:=Tryz.sizeOf166
 v50:=Tryz.zeroValue166
 t53:=Tryz.underlying274
 a53:=Tryz.isAgg274
 z53:=Tryz.sizeOf274
 v53:=Tryz.zeroValue274
 t55:=Tryz.underlying277
 a55:=Tryz.isAgg277
 z55:=Tryz.sizeOf277
 v55:=Tryz.zeroValue277
 t66:=Tryz.underlying360
 a66:=Tryz.isAgg360
 z66:=Tryz.sizeOf360
 v66:=Tryz.zeroValue360
 t70:=Tryz.underlying364
 a70:=Tryz.isAgg364
 z70:=Tryz.sizeOf364
 v70:=Tryz.zeroValue364
 t76:=Tryz.underlying417
 a76:=Tryz.isAgg417
 z76:=Tryz.sizeOf417
 v76:=Tryz.zeroValue417
 t77:=Tryz.underlying418
 a77:=Tryz.isAgg418
 z77:=Tryz.sizeOf418
 v77:=Tryz.zeroValue418 }
def noOf:List CV→Nt
 | [.s (.string a),.s (.int _ b),.s (.int _ c),.s (.int _ d),.s (.string e),.s (.string f),.s (.string g),.s (.int _ h),.s (.string i),.s (.int _ j)]=>⟨a.data.toList,b,c,d,e.data.toList,f.data.toList,g.data.toList,h,i.data.toList,j⟩
 | _=>⟨[],0,0,0,[],[],[],0,[],0⟩
theorem zl6 (x:Nt):noOf (noR x)=x:=by
 obtain⟨st,no,at_,kd,pr,jb,sp,n,of_,ot⟩:=x
 simp[noR,noOf]
theorem zK15 (l:List Nt):(noRs l).map noOf=l:=by
 rw[List.map_map]
 exact(List.map_congr_left fun s _=>zl6 s).trans (List.map_id l)
theorem zT12 (a:Nt):¬cmpNt a a < 0:=fun h=>by
 have:=(zo9 a a).2 ⟨rfl,rfl,rfl⟩
 omega
theorem ze14 {a b c:Nt} (h1:¬cmpNt a b < 0) (h2:¬cmpNt b c < 0):¬cmpNt a c < 0:=fun h=>by
 have n1:=zo3 a b
 have n2:=zo3 b c
 have n3:=zo3 a c
 by_cases e1:cmpNt a b=0
 ·obtain⟨p1,p2,p3⟩:=(zo9 a b).1 e1
  have:cmpNt b c < 0:=by
   rw[zY4] at h ⊢
   rw[←p1,←p2,←p3];exact h
  exact h2 this
 ·have h3:cmpNt b a < 0:=by omega
  exact h2 (zO3 h3 h)
theorem zj15 (g:FuncId) (hg:okFn Tryz.prog g=true) (hc:∀a b:Nt,ACalls Tryz.prog g [noA a,noA b] [] fun u H=>u = .c (I (cmpNt a b))∧H = []) (l:List Nt) (c:Nat) (hl:l.length≤1000000):ACallsX true Tryz.prog 95 [.o 0 0 l.length c,.f (.func g) []] [.arr 37 10 c (noRs l)] fun u H=>∃l':List Nt,(l'.Perm l∧l'.Pairwise fun a b=>¬cmpNt b a < 0)∧u = .t []∧H = [.arr 37 10 c (noRs l')]:=by
 have h:=zu9 sortNL (k:=10) (fun w=>Tryz.isAgg37 w) (fun w=>Tryz.sizeOf37 w) (fun x=>∃s:Nt,x=noR s) (fun x y=>cmpNt (noOf x) (noOf y)) (g:=g) hg
  (by rintro _ ⟨s,rfl⟩;rw[zl6];exact zT12 s)
  (by rintro _ _ _ ⟨a,rfl⟩ ⟨b,rfl⟩ ⟨c,rfl⟩;simp only[zl6];exact fun h1 h2=>zO3 h1 h2)
  (by rintro _ _ _ ⟨a,rfl⟩ ⟨b,rfl⟩ ⟨c,rfl⟩;simp only[zl6];exact fun h1 h2=>ze14 h1 h2)
  (by rintro _ _ ⟨a,rfl⟩ ⟨b,rfl⟩;simp only[zl6];exact hc a b)
  (noRs l) (by intro r hr;obtain⟨s,_,rfl⟩:=List.mem_map.1 hr;exact⟨s,rfl⟩) (by simp;omega) (e:=37) (cap:=c) (n:=l.length) (c:=c) (pn:=true) (by simp)
 refine ACallsX.mono h fun u H=>?_
 rintro⟨rows',rfl,rfl,hp,hs⟩
 have hrow:∀r∈rows',∃s:Nt,r=noR s:=fun r hr=>by
  obtain⟨s,_,rfl⟩:=List.mem_map.1 (hp.subset hr);exact⟨s,rfl⟩
 refine⟨rows'.map noOf,⟨by have h2:=hp.map noOf;rwa [zK15] at h2, ?_⟩,rfl, ?_⟩
 ·rw[List.pairwise_map]
  exact hs
 ·congr 2
  show rows'=(rows'.map noOf).map noR
  rw[List.map_map]
  refine(List.map_id _).symm.trans (List.map_congr_left fun r hr=>?_)
  obtain⟨s,rfl⟩:=hrow r hr
  simp[zl6]
end Go.Proofs.YtophoepbedlhjaaGreatDoor
namespace Go.Proofs.YtophoepbedlhjaaGreatDoor
open Go Go.RowKit
section
variable {P:Program} {N:Nat} {E:Env} {F:Fm} {H:List OB} {o:Oper} {S:Nat→Prop} {ρ:List (Option Nat)} {a:Act} {w:World}
end
end Go.Proofs.YtophoepbedlhjaaGreatDoor
