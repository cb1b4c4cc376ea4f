/- copy into an array of the call's own. -/
import Derived.Test.YtophoepbedlhjaaGreatDoorQba
import Derived.Test.YtophoepbedlhjaaGreatDoorQay
import Derived.Test.YtophoepbedlhjaaGreatDoorQaw
import Derived.Test.YtophoepbedlhjaaGreatDoorQas
import Derived.Shelf.SlSortCmp.NoneTotal
import Derived.Shelf.SortM.Plain
import Derived.Shelf.SortM.SortNone
import Derived.Test.YtophoepbedlhjaaGreatDoorProg
import Derived.Test.YtophoepbedlhjaaGreatDoorQam
set_option linter.unusedSimpArgs false
set_option linter.unusedVariables false
namespace Go.Proofs.YtophoepbedlhjaaGreatDoor
open Go Go.RowKit
theorem zS10 {x:Nt} (h:ntF x=0):(x.kd=1→keyB x.jb=true∧1≤x.n∧x.n≤1000)∧(x.kd=2→1≤x.n∧x.n≤1000)∧(x.kd=5→keyB x.sp=true∧1≤x.n∧x.n≤100000000)∧(x.kd=6→1≤x.n∧x.n≤100000000):=by
 unfold ntF at h
 split at h
 ·cases h
 split at h
 ·cases h
 split at h
 ·cases h
 split at h
 ·cases h
 rename_i h4
 split at h
 ·cases h
 rename_i h5
 clear h
 refine⟨fun hk=>?_,fun hk=>?_,fun hk=>?_,fun hk=>?_⟩
 all_goals
  rw[hk] at h4 h5
  simp[uP,uJ,uS,uU,uM,outB] at h4 h5
 ·exact⟨h4.2,by omega,by omega⟩
 ·omega
 ·exact⟨h4.2,by omega,by omega⟩
 ·omega
theorem key_ne {s:List UInt8} (h:keyB s=true):s≠[]:=fun e=>by subst e;simp[keyB] at h
structure BkOk (b:Bk) (k:Nat):Prop where
 js:JsOk b.js
 sp:MapOk b.sp b.spk
 lf:MapOk b.lf b.lfk
 us:MapOk b.us b.usk
 l:∀s,0≤(mget b.lf s).getD 0∧(mget b.lf s).getD 0≤100000000
 u:∀s,0≤(mget b.us s).getD 0∧(mget b.us s).getD 0≤100000000*(k:Int)
theorem BkOk.spb {b:Bk} {k:Nat} (h:BkOk b k) (hk:k≤2000):SpB b.lf b.us:=⟨h.l,fun s=>⟨(h.u s).1,by have:=(h.u s).2;omega⟩⟩
theorem JsOk.nil:JsOk []:=⟨fun i k a b h=>by simp at h,fun i k a b h=>by simp at h,fun j h=>(by cases h),fun j h=>(by cases h),fun j h=>(by cases h)⟩
theorem BkOk.zero:BkOk bk0 0:=⟨JsOk.nil,.nil,.nil,.nil,fun s=>by simp[bk0,mget],fun s=>by simp[bk0,mget]⟩
theorem BkOk.more {b:Bk} {k:Nat} (h:BkOk b k):BkOk b (k+1):=⟨h.js,h.sp,h.lf,h.us,h.l,fun s=>⟨(h.u s).1,by have:=(h.u s).2;omega⟩⟩
theorem JsOk.lay {js:List Jb} (h:JsOk js) {p:List UInt8} {k:Nat} {j:Jb} {t:Int} (hr:runI js p=some k) (hk:js[k]?=some j) (hl:(j.ly.length:Int)+1≤j.all):JsOk (layJ js p t):=by
 unfold layJ
 rw[hr]
 have hm:=List.mem_of_getElem? hk
 exact h.mod hk (fun _=>rfl) (fun _=>rfl) (fun _ h=>h) (h.st j hm) (by have:=(h.all j hm).2;simp;omega)
theorem JsOk.stop {js:List Jb} (h:JsOk js) {p:List UInt8} {k:Nat} {j:Jb} {s t:Int} (hr:runI js p=some k) (hk:js[k]?=some j) (hs:s=1∨s=2):JsOk (stopJ js p s t):=by
 unfold stopJ
 rw[hr]
 have hm:=List.mem_of_getElem? hk
 exact h.mod hk (fun _=>rfl) (fun _=>rfl) (fun _ h=>by simp at h;omega) (.inr hs) (h.all j hm)
theorem zx10 {js:List Jb} {p:List UInt8} {k:Nat} {j:Jb} (hr:runI js p=some k) (hk:js[k]?=some j):runJ js p=some j:=by unfold runJ;rw[hr];exact hk
theorem BkOk.next {b:Bk} {k:Nat} {x:Nt} (h:BkOk b k) (hx:ntF x=0) (hr:rfE b x=0):BkOk (ntS b x) (k+1):=by
 obtain⟨f1,f2,f5,f6⟩:=zS10 hx
 unfold rfE at hr
 unfold ntS
 by_cases h1:x.kd=1
 ·rw[if_pos h1] at hr ⊢
  obtain⟨g1,g2,g3⟩:=f1 h1
  have e1:nmI b.js x.jb=none:=by
   cases hq:nmI b.js x.jb with
   | none=>rfl
   | some q=>simp[hq] at hr
  have e2:runI b.js x.pr=none:=by
   cases hq:runI b.js x.pr with
   | none=>rfl
   | some q=>simp[hq,e1] at hr
  exact⟨h.js.begin e1 e2 rfl (key_ne g1) rfl ⟨show (0:Int)≤x.n by omega,g3⟩,h.sp,h.lf,h.us,h.l,h.more.u⟩
 rw[if_neg h1] at hr ⊢
 by_cases h2:x.kd=2
 ·rw[if_pos h2] at hr ⊢
  cases hq:runI b.js x.pr with
  | none=>simp[runJ,hq] at hr
  | some q=>
   obtain⟨j,hj,_,_⟩:=zG1 hq
   rw[zx10 hq hj] at hr
   simp only at hr
   split at hr
   ·cases hr
   ·rename_i hn
    split at hr
    ·cases hr
    ·rename_i hn2
     exact⟨h.js.lay hq hj (by omega),h.sp,h.lf,h.us,h.l,h.more.u⟩
 rw[if_neg h2] at hr ⊢
 by_cases h3:x.kd=3
 ·rw[if_pos h3] at hr ⊢
  cases hq:runI b.js x.pr with
  | none=>simp[runJ,hq] at hr
  | some q=>
   obtain⟨j,hj,_,_⟩:=zG1 hq
   exact⟨h.js.stop hq hj (.inl rfl),h.sp,h.lf,h.us,h.l,h.more.u⟩
 rw[if_neg h3] at hr ⊢
 by_cases h4:x.kd=4
 ·rw[if_pos h4] at hr ⊢
  cases hq:runI b.js x.pr with
  | none=>simp[hq] at hr
  | some q=>
   obtain⟨j,hj,_,_⟩:=zG1 hq
   exact⟨h.js.stop hq hj (.inr rfl),h.sp,h.lf,h.us,h.l,h.more.u⟩
 rw[if_neg h4] at hr ⊢
 by_cases h5:x.kd=5
 ·rw[if_pos h5] at hr ⊢
  obtain⟨_,g2,g3⟩:=f5 h5
  refine⟨h.js,h.sp.set _ _,h.lf.set _ _,h.us,fun s=>?_,h.more.u⟩
  simp only
  rw[zK1]
  split
  ·simp only[Option.getD_some];omega
  ·exact h.l s
 rw[if_neg h5] at hr ⊢
 by_cases h6:x.kd=6
 ·rw[if_pos h6] at hr ⊢
  obtain⟨g2,g3⟩:=f6 h6
  cases hq:mget b.sp x.pr with
  | none=>simp[hq] at hr
  | some kk=>
   simp only[hq] at hr
   have hlf:=h.l kk
   have hus:=h.u kk
   have hn:¬(mget b.lf kk).getD 0 < x.n:=fun h=>by simp[h] at hr
   refine⟨h.js,h.sp,h.lf.set _ _,h.us.set _ _,fun s=>?_,fun s=>?_⟩
   ·simp only[Option.getD_some]
    rw[zK1]
    split
    ·simp only[Option.getD_some];omega
    ·exact h.l s
   ·simp only[Option.getD_some]
    rw[zK1]
    split
    ·simp only[Option.getD_some];omega
    ·exact h.more.u s
 rw[if_neg h6]
 exact h.more
end Go.Proofs.YtophoepbedlhjaaGreatDoor
-- NEWM
namespace Go.Proofs.YtophoepbedlhjaaGreatDoor
open Go Go.RowKit
set_option maxRecDepth 100000
section
variable {P:Program} {N:Nat} {E:Env} {F:Fm} {H:List OB} {K:Fm→List OB→Prop} {Q:Exit→Fm→List OB→Prop}
end
theorem zb8:∀{js:List Jb} {bl:List Nat} {i:Nat} {e:Nat × List UInt8 × Value},e∈jlF i js bl→∃k j b,js[k]?=some j∧bl[k]?=some b∧e=(i+k,j.nm,ptrV b)
 | [],_,_,_,h=>by simp[jlF] at h
 | _ :: _,[],_,_,h=>by simp[jlF] at h
 | x :: js,d :: bl,i,e,h=>by
  simp only[jlF,List.mem_cons] at h
  rcases h with rfl|h
  ·exact⟨0,x,d,rfl,rfl,rfl⟩
  ·obtain⟨k,j,b,h1,h2,h3⟩:=zb8 h
   exact⟨k+1,j,b,by simpa using h1,by simpa using h2,by rw[h3,show i+1+k=i+(k+1) by omega]⟩
theorem jlF_in:∀{js:List Jb} {bl:List Nat} {i k:Nat} {j:Jb} {b:Nat},js[k]?=some j→bl[k]?=some b→(i+k,j.nm,ptrV b)∈jlF i js bl
 | [],_,_,_,_,_,h,_=>by simp at h
 | _ :: _,[],_,_,_,_,_,h=>by simp at h
 | x :: js,d :: bl,i,0,j,b,h1,h2=>by
  simp only[List.getElem?_cons_zero,Option.some.injEq] at h1 h2
  subst h1;subst h2
  simp[jlF]
 | x :: js,d :: bl,i,k+1,j,b,h1,h2=>by
  simp only[List.getElem?_cons_succ] at h1 h2
  have:=jlF_in (i:=i+1) h1 h2
  rw[show i+1+k=i+(k+1) by omega] at this
  exact List.mem_cons_of_mem _ this
theorem zm4:∀{js:List Jb} {bl:List Nat} {i:Nat},bl.length=js.length→(jlF i js bl).map (·.1)=List.range' i js.length
 | [],[],_,_=>rfl
 | x :: js,d :: bl,i,h=>by
  simp only[jlF,List.map_cons,List.length_cons,List.range'_succ]
  rw[zm4 (by simpa using h)]
 | [],_ :: _,_,h=>by simp at h
 | _ :: _,[],_,h=>by simp at h
theorem zp7:∀{js:List Jb} {bl:List Nat} {i:Nat},bl.length=js.length→(jlF i js bl).map (·.2.1)=js.map Jb.nm
 | [],[],_,_=>rfl
 | x :: js,d :: bl,i,h=>by
  simp only[jlF,List.map_cons]
  rw[zp7 (by simpa using h)]
 | [],_ :: _,_,h=>by simp at h
 | _ :: _,[],_,h=>by simp at h
theorem JsOk.names {js:List Jb} (h:JsOk js):(js.map Jb.nm).Nodup:=by
 rw[List.Nodup,List.pairwise_iff_getElem]
 intro i k hi hk hik
 rw[List.length_map] at hi hk
 rw[List.getElem_map,List.getElem_map]
 exact fun e=>by have:=h.nm i k _ _ (List.getElem?_eq_getElem hi) (List.getElem?_eq_getElem hk) e;omega
theorem jlF_ok {js:List Jb} {bl:List Nat} (h:JsOk js) (hb:bl.length=js.length):MapOk (jlF 0 js bl) js.length:=
 ⟨fun e he=>by
  obtain⟨k,j,b,h1,_,rfl⟩:=zb8 he
  have:=(List.getElem?_eq_some_iff.1 h1).1
  simpa using this,by rw[zm4 hb];exact List.nodup_range',by rw[zp7 hb];exact h.names⟩
end Go.Proofs.YtophoepbedlhjaaGreatDoor
-- NEWM
namespace Go.Proofs.YtophoepbedlhjaaGreatDoor
open Go Go.RowKit
set_option maxRecDepth 100000
end Go.Proofs.YtophoepbedlhjaaGreatDoor
-- NEWM
namespace Go.Proofs.YtophoepbedlhjaaGreatDoor
open Go Go.RowKit
set_option maxRecDepth 100000
end Go.Proofs.YtophoepbedlhjaaGreatDoor
-- NEWM
namespace Go.Proofs.YtophoepbedlhjaaGreatDoor
open Go Go.RowKit
set_option maxRecDepth 100000
end Go.Proofs.YtophoepbedlhjaaGreatDoor
-- NEWM
namespace Go.Proofs.YtophoepbedlhjaaGreatDoor
open Go Go.RowKit
set_option maxRecDepth 100000
def OkR (sz:Nat) (R:List (List CV)):Prop:=∀row∈R,row.length=sz∧∀u∈row,u.one=true
theorem okR_map {α:Type} {f:α→List CV} {sz:Nat} (h:∀x,(f x).length=sz∧∀u∈f x,u.one=true) (l:List α):OkR sz (l.map f):=fun row hr=>by
 obtain⟨x,-,rfl⟩:=List.mem_map.1 hr
 exact h x
theorem okNo (l:List Nt):OkR 10 (noRs l):=okR_map (f:=noR) (sz:=10) (fun x=>⟨rfl,fun u hu=>by
 simp only[noR,List.mem_cons,List.not_mem_nil,or_false] at hu
 rcases hu with rfl|rfl|rfl|rfl|rfl|rfl|rfl|rfl|rfl|rfl <;> rfl⟩) l
end Go.Proofs.YtophoepbedlhjaaGreatDoor
-- NEWM
namespace Go.Proofs.YtophoepbedlhjaaGreatDoor
open Go Go.RowKit
set_option maxRecDepth 100000
end Go.Proofs.YtophoepbedlhjaaGreatDoor
namespace Go.Proofs.YtophoepbedlhjaaGreatDoor
open Go Go.RowKit Go.Shelf Go.Sort
theorem Stp.grown {w w':World} (h:Stp w w' (fun _=>False)):∃q os,w'=Sort.grow (w.drewN q) os:=by
 refine⟨w'.drawn - w.drawn,w'.heap.extract w.heap.size w'.heap.size, ?_⟩
 have hh:w.heap++w'.heap.extract w.heap.size w'.heap.size=w'.heap:=by
  refine Array.ext_getElem? fun k=>?_
  rw[Array.getElem?_append]
  split
  ·rename_i hk;exact(h.block k hk (fun x=>x)).symm
  ·rename_i hk
   rw[Array.getElem?_extract]
   have hs:=h.size
   by_cases h2:k < w'.heap.size
   ·rw[if_pos (by omega)];congr 1;omega
   ·rw[if_neg (by omega),Array.getElem?_eq_none (by omega)]
 have h1:=h.os;have h2:=h.tape;have h3:=h.output;have h4:=h.drawn
 obtain⟨hp,tp,dr,o,out⟩:=w
 obtain⟨hp',tp',dr',o',out'⟩:=w'
 simp only at h1 h2 h3 h4 hh ⊢
 subst h1;subst h2;subst h3
 simp only[Sort.grow,World.drewN]
 rw[hh,show dr+(dr' - dr)=dr' by omega]
section
variable {w:World} {S:Nat→Prop} {ρ:List (Option Nat)} {e:TypeId} {k cap B n:Nat} {rows rows':List (List CV)} {cs:Array Value} {os:Array Obj} {f:Array Value→Array Value}
theorem zb3 {b:Nat} (hb:b < w.heap.size) (hne:b≠B):(Sort.grow (mapBlock (Sort.ahead w n) B f) os).heap[b]?=w.heap[b]?:=by
 simp only[Sort.grow,mapBlock,Sort.ahead]
 rw[Array.getElem?_append_left (by simpa using hb),Array.getElem?_modify,if_neg (fun e=>hne e.symm)]
theorem zV6 (hh:w.heap[B]?=some (.cells cs e (0,0))):(Sort.grow (mapBlock (Sort.ahead w n) B f) os).heap[B]?=some (.cells (f cs) e (0,0)):=by
 have hb:B < w.heap.size:=by
  rcases Nat.lt_or_ge B w.heap.size with h|h
  ·exact h
  ·rw[Array.getElem?_eq_none h] at hh;cases hh
 simp only[Sort.grow,mapBlock,Sort.ahead]
 rw[Array.getElem?_append_left (by simpa using hb),Array.getElem?_modify,if_pos rfl,hh]
 rfl
theorem zL3:w.heap.size≤(Sort.grow (mapBlock (Sort.ahead w n) B f) os).heap.size:=by
 simp[Sort.grow,mapBlock,Sort.ahead]
theorem ze9 {e:TypeId} {k cap:Nat} {rows:List (List CV)} (i k' B:Nat):¬inP [OB.arr e k cap rows] i k' B:=fun⟨o,h,h2⟩=>by
 rw[List.getElem?_singleton] at h
 split at h
 ·injection h with h;subst h;exact zA4 h2
 ·cases h
theorem zt10 (hR:RH w S ρ [.arr e k cap rows]) (hB:atB ρ 0=some B) (hh:w.heap[B]?=some (.cells cs e (0,0))) (hcs:(f cs).size=cap*k) (hmx:cap≤maxLen) (hl:rows'.length≤cap)
    (hrow:∀row∈rows',row.length=k∧∀u∈row,Good w S u∧u.den.oneCell'=true) (hcell:∀(i j:Nat) (row:List CV) (u:CV),rows'[i]?=some row→row[j]?=some u→(f cs)[i*k+j]?=some u.den) :
    RH (Sort.grow (mapBlock (Sort.ahead w n) B f) os) S ρ [.arr e k cap rows']∧Stp w (Sort.grow (mapBlock (Sort.ahead w n) B f) os) (fun b=>(∃i,atB ρ i=some b)∨∃i k',inP [OB.arr e k cap rows] i k' b):=by
 have hS:∀b,S b→S b∧(Sort.grow (mapBlock (Sort.ahead w n) B f) os).heap[b]?=w.heap[b]?:=fun b hb=>⟨hb,zb3 (hR.sS b hb) (fun e=>hR.ap 0 B hB (e▸hb))⟩
 refine⟨⟨hR.len,hR.nd,hR.ap,fun i b hi=>Nat.lt_of_lt_of_le (hR.lt i b hi) zL3,fun b hb=>Nat.lt_of_lt_of_le (hR.sS b hb) zL3,fun i o hi=>?_,PL.none ze9⟩,⟨rfl,rfl,rfl,zL3,fun b hb hn=>zb3 hb (fun e=>hn (.inl ⟨0,e▸hB⟩)), ?_⟩⟩
 ·cases i with
  | succ i=>simp at hi
  | zero=>
   simp only[List.getElem?_cons_zero,Option.some.injEq] at hi
   subst hi
   exact .inr ⟨B,f cs,hB,zV6 hh,hcs,hmx,hl,fun row hr=>⟨(hrow row hr).1,fun u hu=>⟨((hrow row hr).2 u hu).1.mono hS,((hrow row hr).2 u hu).2⟩⟩,hcell⟩
 ·show w.drawn≤w.drawn+n
  exact Nat.le_add_right _ _
end
abbrev SEl (w:World) (S:Nat→Prop) (k:Nat) (p:List CV→Prop):={ x:List CV // x.length=k∧p x∧∀u∈x,Good w S u∧u.den.oneCell'=true }
def SEl.enc {w:World} {S:Nat→Prop} {k:Nat} {p:List CV→Prop} (x:SEl w S k p):List Value:=x.1.map CV.den
theorem zL8 {S:Nat→Prop} {ρ:List (Option Nat)} {w u:World} {e:TypeId} {k cap:Nat} {rows rows':List (List CV)} {pn:Bool} {Q:AV→List OB→Prop} (hR:RH w S ρ [.arr e k cap rows]) (h1:RH u S ρ [.arr e k cap rows']) (h2:Stp w u (fun b=>(∃i,atB ρ i=some b)∨∃i k',inP [OB.arr e k cap rows] i k' b)) (hq:Q (.t []) [.arr e k cap rows']) :
    ∃v H' ρ' S',Ending.returned (.tuple #[]) = .returned (AV.den ρ' H' v)∧Q v H'∧WF u S' ρ' H' v∧RH u S' ρ' H' ∧
        Stp w u (fun B=>(∃i,atB ρ i=some B)∨∃i k',inP [OB.arr e k cap rows] i k' B)∧(∀b,S' b→S b∨(w.heap.size≤b∨∃i k',inP [OB.arr e k cap rows] i k' b))∧(∀i B,atB ρ' i=some B→(w.heap.size≤B∨∃i k',inP [OB.arr e k cap rows] i k' B)∨(i < [OB.arr e k cap rows].length∧atB ρ i=some B)) ∧
        (∀i k' B,inP H' i k' B→w.heap.size≤B∨∃i k',inP [OB.arr e k cap rows] i k' B) ∧
        (∀i,i < [OB.arr e k cap rows].length→i < H'.length∧∀o,[OB.arr e k cap rows][i]?=some o→o.shp≠0→atB ρ' i=atB ρ i∧∃o',H'[i]?=some o'∧o'.shp=o.shp) ∧
        (pn=true→∀i,i < [OB.arr e k cap rows].length→atB ρ' i=atB ρ i∧szAt H' i=szAt [OB.arr e k cap rows] i∧capAt H' i=capAt [OB.arr e k cap rows] i):=by
 refine⟨.t [],[.arr e k cap rows'],ρ,S,rfl,hq,.t (by simp),h1,h2,fun b hb=>.inl hb,fun i B hi=>.inr ⟨by have:=zJ4 hi;rw[hR.len] at this;exact this,hi⟩,fun i k' B hi=>absurd hi (ze9 i k' B),fun i hi=>⟨by simpa using hi,fun o ho hs=>?_⟩,fun _ i hi=>?_⟩
 ·cases i with
  | succ i=>simp at hi
  | zero=>simp only[List.getElem?_cons_zero,Option.some.injEq] at ho;subst ho;exact absurd rfl hs
 ·cases i with
  | succ i=>simp at hi
  | zero=>exact⟨rfl,rfl,rfl⟩
theorem zu8 {P:Program} {τ:Ren} (L:SlLaysF0.n6 P τ) {k:Nat} (aE:∀w,(isAgg (τ.t 24)).run P w = .ok true w) (zE:∀w,(Go.sizeOf (τ.t 24)).run P w = .ok k w) (p:List CV→Prop) (cf:List CV→List CV→Int) {g:FuncId} (hg:okFn P g=true)
    (hirr:∀x,p x→¬cf x x < 0) (htr:∀x y z,p x→p y→p z→cf x y < 0→cf y z < 0→cf x z < 0) (hnt:∀x y z,p x→p y→p z→¬cf x y < 0→¬cf y z < 0→¬cf x z < 0)
    (hc:∀x y,p x→p y→ACalls P g [.a (x.map .c),.a (y.map .c)] [] fun u H=>u = .c (.s (.int .i64 (cf x y)))∧H = [])
    (rows:List (List CV)) (hp:∀r∈rows,p r) (hle:rows.length≤1000000000) {e:TypeId} {cap n c:Nat} {pn:Bool} (hn:n=rows.length) :
    ACallsX pn P (τ.f 6) [.o 0 0 n c,.f (.func g) []] [.arr e k cap rows] fun u H=>∃rows',u = .t []∧H = [.arr e k cap rows']∧rows'.Perm rows∧rows'.Pairwise (fun x y=>¬cf y x < 0):=fun S ρ w hR hW=>by
 have hwf:WF w S ρ [.arr e k cap rows] (.o 0 0 n c):=hW _ (by simp)
 have hargs:([AV.o 0 0 n c,AV.f (.func g) []].map (AV.den ρ [.arr e k cap rows])).toArray=#[.slice ((atB ρ 0).map fun B=>⟨B,0,none⟩) n c,.func (.func g) #[] #[]]:=by
  simp[AV.den,AV.denL];rfl
 rw[hargs]
 by_cases hr0:rows = []
 ·subst hr0
  simp only[List.length_nil] at hn
  subst hn
  refine(AnyF.slices_SortFunc_none L _ c _ w).mono ?_
  rintro e' w' ⟨rfl,rfl⟩
  exact zL8 hR hR (Stp.refl _ _) ⟨[],rfl,rfl,List.Perm.refl _,List.Pairwise.nil⟩
 ·rcases hR.blk 0 _ rfl with⟨_,_,h⟩|⟨B,cs,hB,hh,hcs,hmx,hl,hrow,hcell⟩
  ·exact absurd h hr0
  ·rw[hB]
   have hall:∀r∈rows,r.length=k∧p r∧∀u∈r,Good w S u∧u.den.oneCell'=true:=fun r hr=>⟨(hrow r hr).1,hp r hr,(hrow r hr).2⟩
   letI:Inhabited (SEl w S k p):=⟨⟨rows.head hr0,hall _ (List.head_mem hr0)⟩⟩
   let d:Array (SEl w S k p):=(rows.attachWith _ hall).toArray
   have hds:d.size=n:=by simp[d,hn]
   have hdg:∀i (hi:i < rows.length),(d[i]!).1=rows[i]:=fun i hi=>by
    rw[getElem!_pos d i (by rw[hds,hn];exact hi)]
    simp[d]
   have hblt:B < w.heap.size:=hR.lt 0 B hB
   have hS:∀(m:Nat) (os:Array Obj) (dk:Array (SEl w S k p)) (b:Nat),S b→S b∧(sortWorldK (α:=SEl w S k p) SEl.enc k w B 0 m dk os).heap[b]?=w.heap[b]?:=fun m os dk b hb=>⟨hb,zb3 (hR.sS b hb) (fun e=>hR.ap 0 B hB (e▸hb))⟩
   have hlen:∀x:SEl w S k p,x.enc.length=k:=fun x=>by rw[SEl.enc,List.length_map];exact x.2.1
   have hH:HoldsK SEl.enc k w B 0 d:=fun j hj=>by
    rw[size_flatK] at hj
    rw[get_flatK _ _ _ _ hj]
    have hk0:0 < k:=Nat.pos_of_ne_zero fun h=>by subst h;simp at hj
    have hq:j / k < rows.length:=by rw[←hn,←hds];exact Nat.div_lt_of_lt_mul (by rw[Nat.mul_comm];exact hj)
    have hm:j % k < k:=Nat.mod_lt _ hk0
    have hrl:=(hrow _ (List.getElem_mem hq)).1
    have h1:=hcell (j / k) (j % k) _ _ (List.getElem?_eq_getElem hq) (List.getElem?_eq_getElem (by rw[hrl];exact hm))
    rw[show j / k*k+j % k=j by rw[Nat.mul_comm];exact Nat.div_add_mod j k] at h1
    refine⟨?_, ?_⟩
    ·show w.cell? ⟨B,0+j,none⟩=some ((SEl.enc d[j / k]!)[j % k]!)
     rw[Nat.zero_add]
     simp only[World.cell?,hh,h1,Option.isSome_none,Bool.false_eq_true,if_false]
     rw[getElem!_pos _ _ (by rw[hlen];exact hm)]
     simp[SEl.enc,hdg _ hq]
    ·simp[World.frozen?,hh]
   have hcmp:CmpLays P g #[] SEl.enc k (fun x y=>cf x.1 y.1) B 0 d.size w:=fun m os dk _ x y=>by
    have hRW:RH (sortWorldK (α:=SEl w S k p) SEl.enc k w B 0 m dk os) S [] []:=⟨rfl,fun i i' B h=>(by cases h),fun i B h=>(by cases h),fun i B h=>(by cases h),fun b hb=>Nat.lt_of_lt_of_le (hR.sS b hb) zL3,fun i o h=>(by simp at h),PL.none fun _ _ _=>zo4⟩
    have hax:(List.map (AV.den [] []) [AV.a (x.1.map .c),AV.a (y.1.map .c)]).toArray=#[.agg (SEl.enc x).toArray,.agg (SEl.enc y).toArray]++#[]:=by
     simp[AV.den,AV.denL_eq,SEl.enc,Function.comp_def]
    rw[←hax]
    refine(hc x.1 y.1 x.2.2.1 y.2.2.1 S [] _ hRW ?_).mono ?_
    ·intro v hv
     have key:∀z:SEl w S k p,WF (sortWorldK (α:=SEl w S k p) SEl.enc k w B 0 m dk os) S [] [] (.a (z.1.map .c)):=fun z=>.a fun u hu=>by
      obtain⟨q,hq,rfl⟩:=List.mem_map.1 hu
      exact .c ((z.2.2.2 q hq).1.mono (hS m os dk))
     simp only[List.mem_cons,List.not_mem_nil,or_false] at hv
     rcases hv with rfl|rfl
     ·exact key x
     ·exact key y
    ·rintro e' w' ⟨u,H',ρ',S',rfl,⟨rfl,rfl⟩,_,_,hst,_⟩
     exact⟨rfl,Stp.grown ⟨hst.os,hst.tape,hst.output,hst.size,fun b hb _=>hst.block b hb (fun h=>h.elim (fun⟨i,h⟩=>by cases h) (fun⟨_,_,h⟩=>zo4 h)),hst.drawn⟩⟩
   have hO:SWO (ltOf fun x y:SEl w S k p=>cf x.1 y.1):=
    ⟨fun x=>by simpa [ltOf] using hirr x.1 x.2.2.1,fun x y z h1 h2=>by
        simp only[ltOf,decide_eq_true_eq] at h1 h2 ⊢
        exact htr _ _ _ x.2.2.1 y.2.2.1 z.2.2.1 h1 h2,fun x y z h1 h2=>by
        simp only[ltOf,decide_eq_false_iff_not] at h1 h2 ⊢
        exact hnt _ _ _ x.2.2.1 y.2.2.1 z.2.2.1 h1 h2⟩
   have hcap:n≤cap:=by rw[hn];exact hl
   have hcon:=AnyQ.slices_SortFunc L k aE zE SEl.enc hlen (fun x v hv=>by
    obtain⟨u,hu,rfl⟩:=List.mem_map.1 hv
    exact(x.2.2.2 u hu).2) (fun x y=>cf x.1 y.1) hO g #[] B 0 c d w (fun args w=>zF1 hg) hcmp hH hblt (by
     rw[hds];omega)
   rw[hds] at hcon
   refine hcon.mono ?_
   rintro e' w' ⟨rfl,d',q,os,⟨hps,_,hpp⟩,hsrt,rfl⟩
   have hd':d'.size=n:=by rw[hps,hds]
   have hl':(d'.toList.map (fun x:SEl w S k p=>x.1)).length=rows.length:=by simp[hd',hn]
   have hfs:∀F:Array Value,((putCells id 0 F) cs).size=cs.size:=fun F=>by simp[putCells]
   obtain⟨h1,h2⟩:=zt10 (n:=q) (os:=os) (f:=putCells id 0 (flatK SEl.enc k d')) (rows':=d'.toList.map (fun x:SEl w S k p=>x.1)) hR hB hh (by rw[hfs,hcs]) hmx (by rw[hl'];exact hl) (fun row hr=>by
       obtain⟨x,_,rfl⟩:=List.mem_map.1 hr
       exact⟨x.2.1,x.2.2.2⟩) (fun i j row u hi hj=>by
       rw[List.getElem?_map] at hi
       cases hx:d'.toList[i]? with
       | none=>rw[hx] at hi;cases hi
       | some x=>
        rw[hx] at hi
        simp only[Option.map_some,Option.some.injEq] at hi
        subst hi
        have hi2:i < d'.size:=by
         rw[Array.getElem?_toList] at hx
         rcases Nat.lt_or_ge i d'.size with h|h
         ·exact h
         ·rw[Array.getElem?_eq_none h] at hx;cases hx
        have hj2:j < k:=by
         rcases Nat.lt_or_ge j x.1.length with h|h
         ·rw[←x.2.1];exact h
         ·rw[List.getElem?_eq_none h] at hj;cases hj
        have hlt:i*k+j < d'.size*k:=by
         have:=Nat.mul_le_mul_right k (show i+1≤d'.size from hi2);rw[Nat.add_mul,Nat.one_mul] at this;omega
        have hlt2:i*k+j < cs.size:=by
         rw[hcs];exact Nat.lt_of_lt_of_le hlt (Nat.mul_le_mul_right k (by rw[hd'];exact hcap))
        have e1:(i*k+j) / k=i:=(blk_iff k i _ (by omega)).1 ⟨by omega,by omega⟩
        have e2:(i*k+j) % k=j:=by rw[Nat.mod_eq_sub_div_mul,e1];omega
        simp only[putCells,Array.getElem?_mapIdx,Array.getElem?_eq_getElem hlt2,Option.map_some]
        rw[if_pos ⟨Nat.zero_le _,by rw[size_flatK];omega⟩,Nat.sub_zero,get_flatK _ _ _ _ hlt,e1,e2]
        have hxe:d'[i]! = x:=by
         rw[getElem!_pos d' i hi2]
         rw[Array.getElem?_toList,Array.getElem?_eq_getElem hi2] at hx
         injection hx
        rw[hxe]
        have:x.enc[j]?=some u.den:=by rw[SEl.enc,List.getElem?_map,hj];rfl
        rw[getElem!_pos _ _ (by rw[hlen];exact hj2)]
        rw[List.getElem?_eq_getElem (by rw[hlen];exact hj2)] at this
        injection this with this
        simp[this])
   refine zL8 hR h1 h2 ⟨_,rfl,rfl, ?_, ?_⟩
   ·have h3:d'.toList.Perm d.toList:=by
     have a1:d'.extract 0 n=d':=by rw[←hd'];simp
     have a2:d.extract 0 n=d:=by rw[←hds];simp
     rw[a1,a2] at hpp;exact hpp
    have h4:=h3.map (fun x:SEl w S k p=>x.1)
    have h5:d.toList.map (fun x:SEl w S k p=>x.1)=rows:=by
     refine List.ext_getElem (by simp[d]) fun i h1 h2=>?_
     simp[d]
    rwa [h5] at h4
   ·rw[List.pairwise_map,List.pairwise_iff_getElem]
    intro i j hi hj hij
    have hi':i < d'.size:=by simpa using hi
    have hj':j < d'.size:=by simpa using hj
    have:=hsrt i j (Nat.zero_le _) hij (by rw[←hd'];exact hj')
    rw[getElem!_pos d' i hi',getElem!_pos d' j hj'] at this
    simpa [ltOf] using this
end Go.Proofs.YtophoepbedlhjaaGreatDoor
namespace Go.Proofs.YtophoepbedlhjaaGreatDoor
open Go Go.Shelf
set_option maxRecDepth 100000
def zg6:Go.Shelf.Ren:=⟨fun|6=>107|15=>135|14=>180|28=>215|29=>216|20=>265|21=>266|22=>267|23=>268|24=>269|25=>270|26=>271|27=>272|46=>324|47=>293|48=>294|49=>325|50=>326|57=>371|n=>n,fun|22=>86|24=>189|25=>192|3=>3|39=>211|0=>0|53=>274|55=>277|4=>4|46=>286|45=>285|50=>166|5=>5|9=>9|66=>360|70=>364|76=>417|77=>418|n=>n,fun|n=>n⟩
theorem sortSideL:Go.Proofs.SlLaysF0.n6 Tryz.prog zg6:={
 mixed:=by kernel_rfl
 f6:=⟨Tryz.f107.name,by decide,Tryz.func107.trans (congrArg some (by kernel_rfl))⟩
 f14:=⟨Tryz.f180.name,by decide,Tryz.func180.trans (congrArg some (by kernel_rfl))⟩
 f15:=Tryz.func135.trans (congrArg some (by kernel_rfl))
 f20:=⟨Tryz.f265.name,by decide,Tryz.func265.trans (congrArg some (by kernel_rfl))⟩
 f21:=⟨Tryz.f266.name,by decide,Tryz.func266.trans (congrArg some (by kernel_rfl))⟩
 f22:=⟨Tryz.f267.name,by decide,Tryz.func267.trans (congrArg some (by kernel_rfl))⟩
 f23:=⟨Tryz.f268.name,by decide,Tryz.func268.trans (congrArg some (by kernel_rfl))⟩
 f24:=⟨Tryz.f269.name,by decide,Tryz.func269.trans (congrArg some (by kernel_rfl))⟩
 f25:=⟨Tryz.f270.name,by decide,Tryz.func270.trans (congrArg some (by kernel_rfl))⟩
 f26:=⟨Tryz.f271.name,by decide,Tryz.func271.trans (congrArg some (by kernel_rfl))⟩
 f27:=⟨Tryz.f272.name,by decide,Tryz.func272.trans (congrArg some (by kernel_rfl))⟩
 f28:=Tryz.func215.trans (congrArg some (by kernel_rfl))
 f29:=Tryz.func216.trans (congrArg some (by kernel_rfl))
 f46:=⟨Tryz.f324.name,by decide,Tryz.func324.trans (congrArg some (by kernel_rfl))⟩
 f47:=Tryz.func293.trans (congrArg some (by kernel_rfl))
 f48:=Tryz.func294.trans (congrArg some (by kernel_rfl))
 f49:=⟨Tryz.f325.name,by decide,Tryz.func325.trans (congrArg some (by kernel_rfl))⟩
 f50:=⟨Tryz.f326.name,by decide,Tryz.func326.trans (congrArg some (by kernel_rfl))⟩
 f57:=⟨Tryz.f371.name,by decide,Tryz.func371.trans (congrArg some (by kernel_rfl))⟩
 t0:=Tryz.underlying0
 a0:=Tryz.isAgg0
 z0:=Tryz.sizeOf0
 v0:=Tryz.zeroValue0
 t3:=Tryz.underlying3
 a3:=Tryz.isAgg3
 z3:=Tryz.sizeOf3
 v3:=Tryz.zeroValue3
 t4:=Tryz.underlying4
 a4:=Tryz.isAgg4
 z4:=Tryz.sizeOf4
 v4:=Tryz.zeroValue4
 t5:=Tryz.underlying5
 a5:=Tryz.isAgg5
 z5:=Tryz.sizeOf5
 v5:=Tryz.zeroValue5
 t9:=Tryz.underlying9
 a9:=Tryz.isAgg9
 z9:=Tryz.sizeOf9
 v9:=Tryz.zeroValue9
 t22:=Tryz.underlying86
 a22:=Tryz.isAgg86
 z22:=Tryz.sizeOf86
 v22:=Tryz.zeroValue86
 t25:=Tryz.underlying192
 a25:=Tryz.isAgg192
 z25:=Tryz.sizeOf192
 v25:=Tryz.zeroValue192
 t39:=Tryz.underlying211
 a39:=Tryz.isAgg211
 z39:=Tryz.sizeOf211
 v39:=Tryz.zeroValue211
 t45:=Tryz.underlying285
 a45:=Tryz.isAgg285
 z45:=Tryz.sizeOf285
 v45:=Tryz.zeroValue285
 t46:=Tryz.underlying286
 a46:=Tryz.isAgg286
 z46:=Tryz.sizeOf286
 v46:=Tryz.zeroValue286
 t50:=Tryz.underlying166
 a50:=Tryz.isAgg166
 z50:=Tryz.sizeOf166
 v50:=Tryz.zeroValue166
 t53:=Tryz.underlying274
 a53:=Tryz.isAgg274
 z53:=Tryz.sizeOf274
 v53:=Tryz.zeroValue274
 t55:=Tryz.underlying277
 a55:=Tryz.isAgg277
 z55:=Tryz.sizeOf277
 v55:=Tryz.zeroValue277
 t66:=Tryz.underlying360
 a66:=Tryz.isAgg360
 z66:=Tryz.sizeOf360
 v66:=Tryz.zeroValue360
 t70:=Tryz.underlying364
 a70:=Tryz.isAgg364
 z70:=Tryz.sizeOf364
 v70:=Tryz.zeroValue364
 t76:=Tryz.underlying417
 a76:=Tryz.isAgg417
 z76:=Tryz.sizeOf417
 v76:=Tryz.zeroValue417
 t77:=Tryz.underlying418
 a77:=Tryz.isAgg418
 z77:=Tryz.sizeOf418
 v77:=Tryz.zeroValue418 }
end Go.Proofs.YtophoepbedlhjaaGreatDoor
-- NEWM
namespace Go.Proofs.YtophoepbedlhjaaGreatDoor
open Go Go.RowKit Go.Shelf
set_option maxRecDepth 100000
end Go.Proofs.YtophoepbedlhjaaGreatDoor
namespace Go.Proofs.YtophoepbedlhjaaGreatDoor
open Go Go.RowKit
section
variable {P:Program} {N:Nat} {E:Env} {F:Fm} {H:List OB} {o:Oper} {S:Nat→Prop} {ρ:List (Option Nat)} {a:Act} {w:World}
end
end Go.Proofs.YtophoepbedlhjaaGreatDoor
