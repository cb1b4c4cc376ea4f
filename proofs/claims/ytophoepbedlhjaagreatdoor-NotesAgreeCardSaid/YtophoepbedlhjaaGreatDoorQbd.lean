/- The logic over values: blocks are taken out of a pool, and put into one. -/
import Derived.Test.YtophoepbedlhjaaGreatDoorQay
import Derived.Test.YtophoepbedlhjaaGreatDoorQbc
import Derived.Test.YtophoepbedlhjaaGreatDoorQax
import Derived.Test.YtophoepbedlhjaaGreatDoorQas
set_option linter.unusedSimpArgs false
set_option linter.unusedVariables false
namespace Go.Proofs.YtophoepbedlhjaaGreatDoor
section
open Go Go.RowKit
structure Jb where
 nm:List UInt8
 pr:List UInt8
 st:Int
 ly:List Int
 all:Int
 beg:Int
 en:Int
structure Bk where
 js:List Jb
 sp:List (Nat × List UInt8 × List UInt8)
 spk:Nat
 lf:List (Nat × List UInt8 × Int)
 lfk:Nat
 us:List (Nat × List UInt8 × Int)
 usk:Nat
def fndI {α:Type} (p:α→Bool):List α→Nat→Option Nat
 | [],_=>none
 | x :: l,i=>if p x=true then some i else fndI p l (i+1)
theorem zi3 {α:Type} {p:α→Bool}:∀{l:List α} {i k:Nat},fndI p l i=some k→i≤k∧∃x,l[k - i]?=some x∧p x=true
 | [],_,_,h=>by cases h
 | x :: l,i,k,h=>by
  rw[fndI] at h
  split at h
  ·rename_i hp
   injection h with h
   subst h
   exact⟨Nat.le_refl _,x,by simp,hp⟩
  ·obtain⟨h1,y,h2,h3⟩:=zi3 h
   exact⟨by omega,y,by rw[show k - i=(k - (i+1))+1 by omega,List.getElem?_cons_succ];exact h2,h3⟩
theorem zm4 {α:Type} {p:α→Bool}:∀{l:List α} {i:Nat},fndI p l i=none→∀x∈l,p x=false
 | [],_,_,x,hx=>by cases hx
 | y :: l,i,h,x,hx=>by
  rw[fndI] at h
  split at h
  ·cases h
  ·rename_i hp
   rcases List.mem_cons.1 hx with rfl|hx
   ·simpa using hp
   ·exact zm4 h x hx
theorem zE12 {α:Type} {p:α→Bool} {l:List α} {k:Nat} {x:α} (h1:l[k]?=some x) (h2:p x=true) (hu:∀i y,l[i]?=some y→p y=true→i=k):fndI p l 0=some k:=by
 cases h:fndI p l 0 with
 | none=>rw[zm4 h x (List.mem_of_getElem? h1)] at h2;cases h2
 | some q=>
  obtain⟨_,y,h3,h4⟩:=zi3 h
  rw[hu q y (by simpa using h3) h4]
theorem zh9 {α:Type} {p:α→Bool} {l:List α} (h:∀x∈l,p x=false):fndI p l 0=none:=by
 cases hq:fndI p l 0 with
 | none=>rfl
 | some q=>
  obtain⟨_,y,h3,h4⟩:=zi3 hq
  rw[h y (List.mem_of_getElem? h3)] at h4
  cases h4
def runI (js:List Jb) (p:List UInt8):Option Nat:=fndI (fun j=>decide (j.pr=p) && decide (j.st=0)) js 0
def nmI (js:List Jb) (s:List UInt8):Option Nat:=fndI (fun j=>decide (s=j.nm)) js 0
def runJ (js:List Jb) (p:List UInt8):Option Jb:=(runI js p).bind fun k=>js[k]?
theorem zl2 {js:List Jb} {p:List UInt8} {k:Nat} (h:runI js p=some k):∃j,js[k]?=some j∧j.pr=p∧j.st=0:=by
 obtain⟨_,j,h1,h2⟩:=zi3 h
 simp only[Bool.and_eq_true,decide_eq_true_eq] at h2
 exact⟨j,by simpa using h1,h2.1,h2.2⟩
theorem zc10 {js:List Jb} {s:List UInt8} (h:nmI js s=none):∀j∈js,s≠j.nm:=fun j hj=>of_decide_eq_false (zm4 h j hj)
theorem zT7 {js:List Jb} {p:List UInt8} (h:runI js p=none):∀j∈js,¬(j.pr=p∧j.st=0):=fun j hj ⟨h1,h2⟩=>by
 have:=zm4 h j hj
 simp[h1,h2] at this
structure JsOk (js:List Jb):Prop where
 nm:∀(i k:Nat) (a b:Jb),js[i]?=some a→js[k]?=some b→a.nm=b.nm→i=k
 pr:∀(i k:Nat) (a b:Jb),js[i]?=some a→js[k]?=some b→a.pr=b.pr→a.st=0→b.st=0→i=k
 st:∀j∈js,j.st=0∨j.st=1∨j.st=2
 ne:∀j∈js,j.nm≠[]
 all:∀j∈js,(j.ly.length:Int)≤j.all∧j.all≤1000
theorem zo15 {js:List Jb} (h:JsOk js) {k:Nat} {j:Jb} (hk:js[k]?=some j) (hs:j.st=0):runI js j.pr=some k:=zE12 hk (by simp[hs]) fun i y hy hp=>by
 simp only[Bool.and_eq_true,decide_eq_true_eq] at hp
 exact h.pr i k y j hy hk hp.1 hp.2 hs
theorem zA14 {js:List Jb} (h:JsOk js) {k:Nat} {j:Jb} (hk:js[k]?=some j):nmI js j.nm=some k:=zE12 hk (by simp) fun i y hy hp=>h.nm i k y j hy hk (of_decide_eq_true hp).symm
def stopJ (js:List Jb) (p:List UInt8) (s at_:Int):List Jb:=match runI js p with
 | some k=>js.modify k fun j=>{ j with st:=s,en:=at_ }
 | none=>js
def layJ (js:List Jb) (p:List UInt8) (at_:Int):List Jb:=match runI js p with
 | some k=>js.modify k fun j=>{ j with ly:=j.ly++[at_] }
 | none=>js
def inUse (sp:List (Nat × List UInt8 × List UInt8)) (s:List UInt8):Bool:=sp.any fun e=>decide (e.2.2=s)
def rfE (b:Bk) (x:Nt):Int:=
 if x.kd=1 then (if (nmI b.js x.jb).isSome=true then 6 else if (runI b.js x.pr).isSome=true then 12 else 0)
 else if x.kd=2 then (match runJ b.js x.pr with
  | none=>8
  | some j=>if x.n≠(j.ly.length:Int)+1 then 7 else if j.all < x.n then 2 else 0)
 else if x.kd=3 then (match runJ b.js x.pr with
  | none=>8
  | some j=>if (j.ly.length:Int) < j.all then 11 else 0)
 else if x.kd=4 then (if (runI b.js x.pr).isSome=true then 0 else 8)
 else if x.kd=5 then (if inUse b.sp x.sp=true then 6 else 0)
 else if x.kd=6 then (match mget b.sp x.pr with
  | none=>8
  | some k=>if (mget b.lf k).getD 0 < x.n then 12 else 0)
 else 0
def ntS (b:Bk) (x:Nt):Bk:=
 if x.kd=1 then { b with js:=b.js++[⟨x.jb,x.pr,0,[],x.n,x.at_,0⟩] }
 else if x.kd=2 then { b with js:=layJ b.js x.pr x.at_ }
 else if x.kd=3 then { b with js:=stopJ b.js x.pr 1 x.at_ }
 else if x.kd=4 then { b with js:=stopJ b.js x.pr 2 x.at_ }
 else if x.kd=5 then { b with sp:=mset b.spk x.pr x.sp b.sp,spk:=mclk b.spk x.pr b.sp,lf:=mset b.lfk x.sp x.n b.lf,lfk:=mclk b.lfk x.sp b.lf }
 else if x.kd=6 then { b with lf:=mset b.lfk ((mget b.sp x.pr).getD []) ((mget b.lf ((mget b.sp x.pr).getD [])).getD 0 - x.n) b.lf,lfk:=mclk b.lfk ((mget b.sp x.pr).getD []) b.lf,us:=mset b.usk ((mget b.sp x.pr).getD []) ((mget b.us ((mget b.sp x.pr).getD [])).getD 0+x.n) b.us,usk:=mclk b.usk ((mget b.sp x.pr).getD []) b.us }
 else b
def bk0:Bk:=⟨[],[],0,[],0,[],0⟩
def bkStep (s:Bk × List Int × List Int) (i:Int) (x:Nt):Bk × List Int × List Int:=
 if rfE s.1 x≠0 then (s.1,s.2.1++[i],s.2.2++[rfE s.1 x]) else (ntS s.1 x,s.2.1,s.2.2)
def bkK (l:List Nt) (ix:List Int):Nat→Bk × List Int × List Int
 | 0=>(bk0,[],[])
 | k+1=>match ix[k]? with
  | some i=>(match l[i.toNat]? with
   | some x=>bkStep (bkK l ix k) i x
   | none=>bkK l ix k)
  | none=>bkK l ix k
def bksF (l:List Nt) (ix:List Int):Bk × List Int × List Int:=bkK l ix ix.length
theorem zh14 {l:List Nt} {ix:List Int} {k:Nat} {i:Int} {x:Nt} (h1:ix[k]?=some i) (h2:l[i.toNat]?=some x):bkK l ix (k+1)=bkStep (bkK l ix k) i x:=by rw[bkK,h1];simp only;rw[h2]
structure MapOk {α β:Type} (es:List (Nat × α × β)) (ck:Nat):Prop where
 hb:∀e∈es,e.1 < ck
 nb:(es.map (·.1)).Nodup
 nk:(es.map (·.2.1)).Nodup
theorem zh8 {α β:Type} [DecidableEq α] {ck:Nat} {a:α} {b:β}:∀{l:List (Nat × α × β)} {c:β},mget l a=some c→(mset ck a b l).map (·.1)=l.map (·.1)∧(mset ck a b l).map (·.2.1)=l.map (·.2.1)
 | [],_,h=>by cases h
 | e :: l,c,h=>by
  simp only[mget] at h
  simp only[mset]
  split at h
  ·rename_i he
   rw[if_pos he]
   exact⟨rfl,by simp[he]⟩
  ·rename_i he
   rw[if_neg he]
   obtain⟨h1,h2⟩:=zh8 (ck:=ck) (b:=b) h
   exact⟨by simp[h1],by simp[h2]⟩
theorem mget_none {α β:Type} [DecidableEq α] {a:α}:∀{l:List (Nat × α × β)},mget l a=none↔a∉l.map (·.2.1)
 | []=>by simp[mget]
 | e :: l=>by
  simp only[mget,List.map_cons,List.mem_cons,not_or]
  split
  ·rename_i h;simp[h]
  ·rename_i h;rw[mget_none];simp[h]
theorem MapOk.nil {α β:Type}:MapOk ([]:List (Nat × α × β)) 0:=⟨by simp,by simp,by simp⟩
theorem MapOk.set {α β:Type} [DecidableEq α] {es:List (Nat × α × β)} {ck:Nat} (h:MapOk es ck) (a:α) (b:β):MapOk (mset ck a b es) (mclk ck a es):=by
 cases hg:mget es a with
 | some c=>
  obtain⟨h1,h2⟩:=zh8 (ck:=ck) (b:=b) hg
  have hc:mclk ck a es=ck:=by rw[mclk,hg];rfl
  rw[hc]
  refine⟨fun e he=>?_,by rw[h1];exact h.nb,by rw[h2];exact h.nk⟩
  have:e.1∈(mset ck a b es).map (·.1):=List.mem_map.2 ⟨e,he,rfl⟩
  rw[h1] at this
  obtain⟨e',he',h3⟩:=List.mem_map.1 this
  rw[←h3]
  exact h.hb e' he'
 | none=>
  have hc:mclk ck a es=ck+1:=by rw[mclk,hg];rfl
  rw[hc,zD2 hg]
  refine⟨fun e he=>?_, ?_, ?_⟩
  ·rcases List.mem_append.1 he with he|he
   ·have:=h.hb e he;omega
   ·rw[List.mem_singleton] at he;subst he;simp
  ·rw[List.map_append,List.nodup_append]
   refine⟨h.nb,by simp,fun x hx y hy=>?_⟩
   simp only[List.map_cons,List.map_nil,List.mem_singleton] at hy
   subst hy
   obtain⟨e,he,rfl⟩:=List.mem_map.1 hx
   have:=h.hb e he
   omega
  ·rw[List.map_append,List.nodup_append]
   refine⟨h.nk,by simp,fun x hx y hy=>?_⟩
   simp only[List.map_cons,List.map_nil,List.mem_singleton] at hy
   subst hy
   exact fun e=>mget_none.1 hg (e▸hx)
theorem MapOk.del {α β:Type} [DecidableEq α] {es:List (Nat × α × β)} {ck:Nat} (h:MapOk es ck) (a:α):MapOk (mdel a es) ck:=
 ⟨fun e he=>h.hb e (mdel_sub.subset he),(mdel_sub.map _).nodup h.nb,(mdel_sub.map _).nodup h.nk⟩
theorem zh10 {α β:Type} [DecidableEq α] {a:α} {b:β}:∀{l:List (Nat × α × β)},mget l a=some b→∃i,(i,a,b)∈l
 | [],h=>by cases h
 | e :: l,h=>by
  simp only[mget] at h
  split at h
  ·rename_i he
   injection h with h
   exact⟨e.1,by rw[he,←h];exact List.mem_cons_self⟩
  ·obtain⟨i,hi⟩:=zh10 h
   exact⟨i,List.mem_cons_of_mem _ hi⟩
theorem zi8 {α β:Type} [DecidableEq α] {a c:α}:∀{l:List (Nat × α × β)},(l.map (·.2.1)).Nodup→mget (mdel a l) c=if c=a then none else mget l c
 | [],_=>by simp[mdel,mget]
 | e :: l,hn=>by
  rw[List.map_cons,List.nodup_cons] at hn
  simp only[mdel,mget]
  by_cases h:a=e.2.1
  ·rw[if_pos h]
   by_cases hc:c=a
   ·rw[if_pos hc,mget_none.2 (by rw[hc,h];exact hn.1)]
   ·rw[if_neg hc,if_neg (by rw[←h];exact hc)]
  ·rw[if_neg h]
   simp only[mget]
   by_cases hc:c=e.2.1
   ·rw[if_pos hc,if_pos hc,if_neg (by rw[hc];exact fun e'=>h e'.symm)]
   ·rw[if_neg hc,if_neg hc,zi8 hn.2]
def unsG {α β:Type} (es:List (Nat × α × β)) (seen:List Nat):Nat:=(es.filter fun e=>!seen.contains e.1).length
theorem zE11 {α β:Type} {es:List (Nat × α × β)} {seen:List Nat} {e:Nat × α × β} (he:e∈es) (hn:e.1∉seen):unsG es (seen++[e.1]) < unsG es seen:=by
 unfold unsG
 have h1:(es.filter fun x=>!(seen++[e.1]).contains x.1)=(es.filter fun x=>!seen.contains x.1).filter fun x=>!decide (x.1=e.1):=by
  rw[List.filter_filter]
  refine List.filter_congr fun x _=>?_
  simp[Bool.and_comm]
 rw[h1]
 have h2:e∈es.filter fun x=>!seen.contains x.1:=List.mem_filter.2 ⟨he,by simpa using hn⟩
 refine Nat.lt_of_le_of_ne (List.length_filter_le _ _) fun h3=>?_
 have h4:=(List.length_filter_eq_length_iff.1 h3) e h2
 simp at h4
theorem zg3 {α β:Type} {f:α→β}:∀{l:List α},(l.map f).Nodup→l.Nodup
 | [],_=>.nil
 | x :: l,h=>by
  rw[List.map_cons,List.nodup_cons] at h
  exact List.nodup_cons.2 ⟨fun hx=>h.1 (List.mem_map.2 ⟨x,hx,rfl⟩),zg3 h.2⟩
theorem zb13 {α β:Type} {x y:Nat × α × β}:∀{l:List (Nat × α × β)},(l.map (·.1)).Nodup→x∈l→y∈l→x.1=y.1→x=y
 | [],_,h,_,_=>by cases h
 | z :: l,hn,hx,hy,he=>by
  rw[List.map_cons,List.nodup_cons] at hn
  obtain⟨h1,h2⟩:=hn
  rcases List.mem_cons.1 hx with hx|hx
  ·rcases List.mem_cons.1 hy with hy|hy
   ·rw[hx,hy]
   ·exact absurd (List.mem_map.2 ⟨y,hy,by rw[←he,hx]⟩) h1
  ·rcases List.mem_cons.1 hy with hy|hy
   ·exact absurd (List.mem_map.2 ⟨x,hx,by rw[he,hy]⟩) h1
   ·exact zb13 h2 hx hy he
end
section
open Go Go.RowKit
def encSt:Enc (List UInt8):=⟨fun s=>.string (bst s),fun s=>.c (T s),fun s ρ H=>rfl,fun s w S ρ H=>.c (.s _)⟩
def encIn:Enc Int:=⟨fun z=>.int .i64 z,fun z=>.c (I z),fun z ρ H=>rfl,fun z w S ρ H=>.c (.s _)⟩
theorem keySt:KeyOk Tryz.prog 9 encSt:=by
 refine .now Tryz.underlying9 (fun a b=>?_) (fun b a w=>?_) (fun a=>?_)
 ·show some _=_
  congr 1
  rw[Bool.eq_iff_iff,decide_eq_true_iff]
  show ((bst a).data == (bst b).data)=true↔a=b
  simp
 ·simp only[encSt]
  rw[show (10000:Nat)=9999+1 from rfl,Instr.checkKey]
  simp only[Sem.run_bind,zW Tryz.underlying9,Result.andThen_ok]
  rfl
 ·simp[encSt,Instr.sameBits]
  first|exact beq_self_eq_true _|exact(show ((bst a).data == (bst a).data)=true by simp)|rfl
abbrev mSI (l:List (Nat × List UInt8 × Int)) (ck:Nat):OB:=mpO encSt encIn l ck
abbrev mSS (l:List (Nat × List UInt8 × List UInt8)) (ck:Nat):OB:=mpO encSt encSt l ck
section
variable {N:Nat} {E:Env} {F:Fm} {H:List OB} {o:Oper} {b ck:Nat} {k:List UInt8}
theorem zm2 {x ix:Operand} {l:List (Nat × List UInt8 × Int)} {q:Int} (hq:(mget l k).getD 0=q) (ho:o.op = .lookup 112 x ix false) (hx:ev F x=some (.mp b)) (hH:H[b]?=some (mSI l ck)) (hi:ev F ix=some (.c (T k))):Rd Tryz.prog N E o F H (.c (I q)):=by
 have:=zh4 (N:=N) (E:=E) (ke:=encSt) (ve:=encIn) (k:=k) (z:=0) keySt ho Tryz.underlying112 (by kernel_rfl) hx hH hi (fun ρ H=>encSt.den k ρ H)
 rwa [hq] at this
theorem zT2 {x ix y:Operand} {l:List (Nat × List UInt8 × Int)} {z:Int} (ho:o.op = .mapUpdate 112 x ix y) (hd:o.dst=none) (hx:ev F x=some (.mp b)) (hH:H[b]?=some (mSI l ck)) (hi:ev F ix=some (.c (T k))) (hy:ev F y=some (.c (I z))) :
    Ef Tryz.prog N E o F H fun F' H'=>F'=F∧H'=H.set b (mSI (mset ck k z l) (mclk ck k l)):=
 zl3 (ke:=encSt) (ve:=encIn) (k:=k) (z:=z) keySt ho hd Tryz.underlying112 hx hH hi (fun ρ H=>encSt.den k ρ H) hy (fun ρ H=>encIn.den z ρ H)
theorem zo5 {x ix:Operand} {l:List (Nat × List UInt8 × List UInt8)} {q:List UInt8} (hq:(mget l k).getD []=q) (ho:o.op = .lookup 110 x ix false) (hx:ev F x=some (.mp b)) (hH:H[b]?=some (mSS l ck)) (hi:ev F ix=some (.c (T k))):Rd Tryz.prog N E o F H (.c (T q)):=by
 have:=zh4 (N:=N) (E:=E) (ke:=encSt) (ve:=encSt) (k:=k) (z:=[]) keySt ho Tryz.underlying110 (by kernel_rfl) hx hH hi (fun ρ H=>encSt.den k ρ H)
 rwa [hq] at this
theorem zr3 {x ix:Operand} {l:List (Nat × List UInt8 × List UInt8)} {q:List UInt8} {c:Bool} (hq:(mget l k).getD []=q) (hc:(mget l k).isSome=c) (ho:o.op = .lookup 110 x ix true) (hx:ev F x=some (.mp b)) (hH:H[b]?=some (mSS l ck)) (hi:ev F ix=some (.c (T k))):Rd Tryz.prog N E o F H (.t [.c (T q),.c (B c)]):=by
 have:=zh6 (N:=N) (E:=E) (ke:=encSt) (ve:=encSt) (k:=k) (z:=[]) keySt ho Tryz.underlying110 (by kernel_rfl) hx hH hi (fun ρ H=>encSt.den k ρ H)
 rwa [hq,hc] at this
theorem zu7 {x ix y:Operand} {l:List (Nat × List UInt8 × List UInt8)} {z:List UInt8} (ho:o.op = .mapUpdate 110 x ix y) (hd:o.dst=none) (hx:ev F x=some (.mp b)) (hH:H[b]?=some (mSS l ck)) (hi:ev F ix=some (.c (T k))) (hy:ev F y=some (.c (T z))) :
    Ef Tryz.prog N E o F H fun F' H'=>F'=F∧H'=H.set b (mSS (mset ck k z l) (mclk ck k l)):=
 zl3 (ke:=encSt) (ve:=encSt) (k:=k) (z:=z) keySt ho hd Tryz.underlying110 hx hH hi (fun ρ H=>encSt.den k ρ H) hy (fun ρ H=>encSt.den z ρ H)
theorem zM12 {x ix:Operand} {l:List (Nat × List UInt8 × List UInt8)} (ho:o.op = .call { callee:=.builtin .delete,args:=#[x,ix],argTypes:=#[110,9] }) (hd:o.dst=none) (hx:ev F x=some (.mp b)) (hH:H[b]?=some (mSS l ck)) (hi:ev F ix=some (.c (T k))) :
    Ef Tryz.prog N E o F H fun F' H'=>F'=F∧H'=H.set b (mSS (mdel k l) ck):=
 zL12 (ke:=encSt) (ve:=encSt) (k:=k) keySt ho hd Tryz.underlying110 hx hH hi (fun ρ H=>encSt.den k ρ H)
theorem lkfSI {l:List (Nat × List UInt8 × Int)} {q:Int} (hq:(mget l k).getD 0=q):LkF b (mSI l ck) 112 false (.c (T k)) (.c (I q)):=⟨fun ho hx hH hi=>zm2 hq ho hx hH hi⟩
end
end
section
open Go Go.RowKit
section
variable {P:Program} {N:Nat} {E:Env} {S:Nat→Prop} {ρ:List (Option Nat)} {F:Fm} {H:List OB} {a:Act} {w:World} {K:Fm→List OB→Prop} {Q:Exit→Fm→List OB→Prop}
def PE.ob:PE→OB
 | .bx _ l=>.box (l.map .c)
 | .ar _ _ _ e sz cap rows=>.arr e sz cap rows
 | .out=>.dead
def PE.val:PE→Value
 | .bx v _=>v
 | .ar v ..=>v
 | .out=>undef
def PE.av (b:Nat):PE→AV
 | .bx _ _=>.p b 0 0
 | .ar _ n c ..=>.o b 0 n c
 | .out=>.c (.s undef)
theorem zj10 {α:Type} {l:List α} {k:Nat} {x y:α} (h:y∈l.set k x):y=x∨y∈l:=(List.mem_or_eq_of_mem_set h).symm
theorem zW13 {l:List PE} {k j B:Nat} (h:(OB.pool (l.set k .out)).hasP j B):j≠k∧(OB.pool l).hasP j B:=by
 obtain⟨l',e,h1,h2,h3⟩:=h
 injection h1 with h1
 subst h1
 rw[List.getElem?_set] at h2
 split at h2
 ·split at h2
  ·injection h2 with h2;subst h2;cases h3
  ·cases h2
 ·rename_i hne
  exact⟨fun e=>hne e.symm,l,e,rfl,h2,h3⟩
theorem R.take {p k:Nat} {l:List PE} {e:PE} (h:R N E S ρ F H a w) (hp:H[p]?=some (.pool l)) (hk:l[k]?=some e) (hne:e≠.out):∃m,R N E S (ρ++[m]) F (H.set p (.pool (l.set k .out))++[e.ob]) a w∧(e.av H.length).den (ρ++[m]) (H.set p (.pool (l.set k .out))++[e.ob])=e.val∧WF w S (ρ++[m]) (H.set p (.pool (l.set k .out))++[e.ob]) (e.av H.length):=by
 have hpl:p < H.length:=(List.getElem?_eq_some_iff.1 hp).1
 have hbl:=h.hp.blk p _ hp
 have hok:=hbl.2 e (List.mem_of_getElem? hk)
 let H1:=H.set p (.pool (l.set k .out))
 have hlen1:H1.length=H.length:=by simp[H1]
 have he1:Ex ρ H ρ H1:=Ex.set hp rfl rfl (fun _=>rfl)
 have he:Ex ρ H (ρ++[e.blk]) (H1++[e.ob]):=by
  have h2:=Ex.snoc (ρ:=ρ) (H:=H1) (by rw[hlen1];exact h.hp.len) e.blk e.ob
  refine⟨fun b hb=>by rw[h2.at_ b (by rw[hlen1];exact hb)],fun b hb=>by rw[h2.sz b (by rw[hlen1];exact hb),he1.sz b hb],fun b hb=>by rw[h2.cap b (by rw[hlen1];exact hb),he1.cap b hb],by simp[hlen1],fun b o hb hs=>?_⟩
  obtain⟨o',h3,h4⟩:=he1.bx b o hb hs
  obtain⟨o2,h5,h6⟩:=h2.bx b o' h3 (by rw[h4];exact hs)
  exact⟨o2,h5,h6.trans h4⟩
 have hobnp:∀k B,¬e.ob.hasP k B:=fun k B hq=>by
  obtain⟨l',hl'⟩:=zs1 hq
  cases e <;> cases hl'
 have hin:∀i j B,inP (H1++[e.ob]) i j B→inP H i j B∧¬(i=p∧j=k):=fun i j B hi=>by
  obtain⟨o,h1,h2⟩:=zx3 hobnp hi
  rw[List.getElem?_set] at h1
  split at h1
  ·rename_i hpi
   subst hpi
   try rw[if_pos hpl] at h1
   injection h1 with h1
   subst h1
   obtain⟨h3,h4⟩:=zW13 h2
   exact⟨⟨_,hp,h4⟩,fun h=>h3 h.2⟩
  ·rename_i hpi
   exact⟨⟨o,h1,h2⟩,fun h=>hpi h.1.symm⟩
 have hat:∀i,atB (ρ++[e.blk]) i=if i=H.length then e.blk else atB ρ i:=fun i=>by rw[zt,h.hp.len]
 have hsrc:∀i B,atB (ρ++[e.blk]) i=some B→(i≠H.length∧atB ρ i=some B)∨(i=H.length∧e.blk=some B∧inP H p k B):=fun i B hi=>by
  rw[hat] at hi
  split at hi
  ·rename_i hii;exact .inr ⟨hii,hi,_,hp,l,e,rfl,hk,hi⟩
  ·rename_i hii;exact .inl ⟨hii,hi⟩
 have hR:R N E S (ρ++[e.blk]) F (H1++[e.ob]) a w:=by
  refine h.ex he Mo.refl ⟨by simp[hlen1,h.hp.len],fun i i' B hi hi'=>?_,fun i B hi=>?_,fun i B hi=>?_,h.hp.sS,fun i o ho=>?_,⟨fun i j i' j' B h1 h2=>h.hp.pl.pd _ _ _ _ _ (hin _ _ _ h1).1 (hin _ _ _ h2).1,fun i j B h1=>?_⟩⟩ h.st (fun i B hi=>?_) h.nS (fun i j B hi=>h.pw _ _ _ (hin _ _ _ hi).1)
  ·rcases hsrc i B hi with⟨e1,e2⟩|⟨e1,e2,e3⟩ <;> rcases hsrc i' B hi' with⟨f1,f2⟩|⟨f1,f2,f3⟩
   ·exact h.hp.nd _ _ _ e2 f2
   ·exact absurd e2 ((h.hp.pl.ps _ _ _ f3).2.1 i)
   ·exact absurd f2 ((h.hp.pl.ps _ _ _ e3).2.1 i')
   ·omega
  ·rcases hsrc i B hi with⟨e1,e2⟩|⟨e1,e2,e3⟩
   ·exact h.hp.ap _ _ e2
   ·exact(h.hp.pl.ps _ _ _ e3).1
  ·rcases hsrc i B hi with⟨e1,e2⟩|⟨e1,e2,e3⟩
   ·exact h.hp.lt _ _ e2
   ·exact(h.hp.pl.ps _ _ _ e3).2.2
  ·rcases Nat.lt_or_ge i H.length with hil|hil
   ·rw[List.getElem?_append_left (by rw[hlen1];exact hil)] at ho
    rw[hat,if_neg (by omega)]
    rw[List.getElem?_set] at ho
    split at ho
    ·rename_i hpi
     subst hpi
     try rw[if_pos hpl] at ho
     injection ho with ho
     subst ho
     refine⟨hbl.1,fun x hx=>?_⟩
     rcases zj10 hx with rfl|hx
     ·trivial
     ·exact hbl.2 x hx
    ·exact(h.hp.blk i o ho).ex he Mo.refl (fun _ _=>rfl) (fun _ _ _=>rfl)
   ·rw[List.getElem?_append_right (by rw[hlen1];exact hil),hlen1] at ho
    cases hq:i - H.length with
    | succ n=>rw[hq] at ho;simp at ho
    | zero=>
     rw[hq] at ho
     simp only[List.getElem?_cons_zero,Option.some.injEq] at ho
     subst ho
     rw[hat,if_pos (by omega)]
     cases e with
     | out=>exact absurd rfl hne
     | bx v row=>
      obtain⟨B,t,rfl,h1,h2⟩:=hok
      refine⟨B,t,rfl, ?_,fun x hx=>?_⟩
      ·rw[h1,List.map_map];rfl
      ·obtain⟨u,hu,rfl⟩:=List.mem_map.1 hx
       exact⟨.c (h2 u hu).1,(h2 u hu).2⟩
     | ar v n c et sz cap rows=>
      rcases hok with⟨rfl,_,_,h3,h4⟩|⟨B,cs,rfl,h1,h2,h3,h4,h5,h6,h7,h8⟩
      ·exact .inl ⟨rfl,h3,h4⟩
      ·exact .inr ⟨B,cs,rfl,h3,h4,h5,h6,h7,h8⟩
  ·obtain⟨g1,g2,g3⟩:=h.hp.pl.ps _ _ _ (hin _ _ _ h1).1
   refine⟨g1,fun q hq=>?_,g3⟩
   rcases hsrc q B hq with⟨_,e2⟩|⟨_,_,e3⟩
   ·exact g2 _ e2
   ·obtain⟨e4,e5⟩:=h.hp.pl.pd _ _ _ _ _ (hin _ _ _ h1).1 e3
    exact(hin _ _ _ h1).2 ⟨e4,e5⟩
  ·rcases hsrc i B hi with⟨_,e2⟩|⟨_,_,e3⟩
   ·exact h.nw _ _ e2
   ·exact .inl (h.pw _ _ _ e3)
 refine⟨e.blk,hR, ?_, ?_⟩
 ·have hb:atB (ρ++[e.blk]) H.length=e.blk:=by rw[hat,if_pos rfl]
  cases e with
  | out=>exact absurd rfl hne
  | bx v row=>
   obtain⟨B,t,rfl,h1,h2⟩:=hok
   simp only[PE.av,AV.den,hb,PE.val]
   simp[PE.blk]
  | ar v n c et sz cap rows=>
   rcases hok with⟨rfl,rfl,rfl,h3,h4⟩|⟨B,cs,rfl,h1,h2,h3,h4,h5,h6,h7,h8⟩
   ·simp only[PE.av,AV.den,hb,PE.val]
    simp[PE.blk]
   ·simp only[PE.av,AV.den,hb,PE.val]
    simp[PE.blk]
 ·have hb:atB (ρ++[e.blk]) H.length=e.blk:=by rw[hat,if_pos rfl]
  have hc:capAt (H1++[e.ob]) H.length=e.ob.cap:=by unfold capAt;rw[List.getElem?_append_right (by rw[hlen1];exact Nat.le_refl _),hlen1];simp
  cases e with
  | out=>exact absurd rfl hne
  | bx v row=>
   obtain⟨B,t,rfl,h1,h2⟩:=hok
   exact .p (by simp) (by rw[hb];rfl)
  | ar v n c et sz cap rows=>
   rcases hok with⟨rfl,rfl,rfl,h3,h4⟩|⟨B,cs,rfl,h1,h2,h3,h4,h5,h6,h7,h8⟩
   ·exact .o (by simp) (Nat.le_refl _) (by simp) (fun _=>⟨rfl,rfl⟩)
   ·exact .o (by simp) h1 (by rw[hc];simpa [PE.ob,OB.cap] using h2) (fun h=>by rw[hb] at h;cases h)
theorem R.eqv {x:AV} (hR:R N E S ρ F H a w) (h2:WF w S ρ H x):R N E S (ρ++[none]) F (H++[.eqv x (x.den ρ H)]) a w:=by
 have he:=Ex.snoc (ρ:=ρ) (H:=H) hR.hp.len none (.eqv x (x.den ρ H))
 have hin:∀i k B,inP (H++[.eqv x (x.den ρ H)]) i k B→inP H i k B:=fun i k B=>zx3 (fun k B h=>by obtain⟨l,h⟩:=zs1 h;cases h)
 refine hR.ex he Mo.refl ⟨by simp[hR.hp.len],fun j j' B hj hj'=>?_,fun j B hj=>?_,fun j B hj=>?_,hR.hp.sS,fun j o ho=>?_,hR.hp.pl.mono hin (fun _ h=>.inl h) (fun j B hj=>?_) (Nat.le_refl _)⟩ hR.st (fun j B hj=>?_) hR.nS (fun i k B h=>hR.pw i k B (hin i k B h))
 ·rw[zt] at hj hj'
  split at hj
  ·cases hj
  ·split at hj'
   ·cases hj'
   ·exact hR.hp.nd j j' B hj hj'
 ·rw[zt] at hj
  split at hj
  ·cases hj
  ·exact hR.hp.ap j B hj
 ·rw[zt] at hj
  split at hj
  ·cases hj
  ·exact hR.hp.lt j B hj
 ·rcases Nat.lt_or_ge j H.length with hlt|hge
  ·rw[List.getElem?_append_left hlt] at ho
   rw[zt,if_neg (by rw[hR.hp.len];omega)]
   exact(hR.hp.blk j o ho).ex he Mo.refl (fun _ _=>rfl) (fun _ _ _=>rfl)
  ·rw[List.getElem?_append_right hge] at ho
   cases hq:j - H.length with
   | zero=>
    rw[hq] at ho
    simp only[List.getElem?_cons_zero,Option.some.injEq] at ho
    subst ho
    exact⟨h2.den_ex he,h2.ex he Mo.refl⟩
   | succ n=>rw[hq] at ho;simp at ho
 ·rw[zt] at hj
  split at hj
  ·cases hj
  ·exact .inl ⟨j,hj⟩
 ·rw[zt] at hj
  split at hj
  ·cases hj
  ·exact hR.nw j B hj
theorem R.putp {b p k:Nat} {l l':List PE} {e:PE} (h:R N E S ρ F H a w) (hb:H[b]?=some e.ob) (hne:e≠.out) (hp:H[p]?=some (.pool l)) (hq:(e.av b).den ρ H=e.val) (hw:WF w S ρ H (e.av b)) (hl1:∀x∈l',x=e∨x∈l) (hl2:∀j x,l'[j]?=some x→(j=k∧x=e)∨l[j]?=some x) (hlb:E.H0.length≤b) :
    R N E S (ρ.set b none) (killF (AV.den ρ H) [b] F) (((H.map (killO (AV.den ρ H) [b])).set b .dead).set p (.pool l')) a w:=by
 have hpl:p < H.length:=(List.getElem?_eq_some_iff.1 hp).1
 have hbl:b < H.length:=(List.getElem?_eq_some_iff.1 hb).1
 have hpb:p≠b:=fun e'=>by subst e';rw[hb] at hp;injection hp with hp;cases e <;> cases hp
 have hpool:=h.hp.blk p _ hp
 have hbok:=h.hp.blk b _ hb
 let H1:=(H.map (killO (AV.den ρ H) [b])).set b .dead
 have he:ExB [b] ρ H (ρ.set b none) (H1.set p (.pool l')):=by
  have hH:∀i,i < H.length→i≠b→∃o',(H1.set p (.pool l'))[i]?=some o'∧∃o,H[i]?=some o∧o'.sz=o.sz∧o'.cap=o.cap:=fun i hi hib=>by
   rw[List.getElem?_set]
   split
   ·rename_i hpi;subst hpi;rw[if_pos (by simpa [H1] using hi)];exact⟨_,rfl,_,hp,rfl,rfl⟩
   ·rw[List.getElem?_set_ne (Ne.symm hib),List.getElem?_map,List.getElem?_eq_getElem hi];exact⟨_,rfl,_,rfl,zt3 _ _ _,zG2 _ _ _⟩
  refine⟨fun i hi hib=>?_,fun i hi hib=>?_,fun i hi hib=>?_,by simp[H1]⟩
  all_goals replace hib:i≠b:=by simpa using hib
  ·unfold atB;rw[List.getElem?_set_ne (Ne.symm hib)]
  ·obtain⟨o',h1,o,h2,h3,h4⟩:=hH i hi hib;unfold szAt;rw[h1,h2];exact h3
  ·obtain⟨o',h1,o,h2,h3,h4⟩:=hH i hi hib;unfold capAt;rw[h1,h2];exact h4
 have hat:∀i B,atB (ρ.set b none) i=some B→i≠b∧atB ρ i=some B:=fun i B hi=>by
  by_cases hib:i=b
  ·subst hib
   unfold atB at hi
   rw[List.getElem?_set_self (by rw[h.hp.len];exact hbl)] at hi
   cases hi
  ·refine⟨hib, ?_⟩
   unfold atB at hi ⊢
   rw[List.getElem?_set_ne (Ne.symm hib)] at hi
   exact hi
 have heb:e.blk=atB ρ b:=by
  cases e with
  | out=>exact absurd rfl hne
  | bx v row=>
   obtain⟨B,t,h1,_⟩:=hbok
   simp only[PE.av,AV.den,h1,PE.val] at hq
   rw[h1,←hq];rfl
  | ar v n c et sz cap rows=>
   simp only[PE.av,AV.den,PE.val] at hq
   rw[←hq]
   cases hB:atB ρ b <;> rfl
 have heok:PEok w S e:=by
  cases e with
  | out=>trivial
  | bx v row=>
   obtain⟨B,t,h1,h2,h3⟩:=hbok
   simp only[PE.av,AV.den,h1,PE.val] at hq
   refine⟨B,t, ?_, ?_,fun u hu=>?_⟩
   ·rw[←hq];simp
   ·rw[h2,List.map_map];rfl
   ·have:=h3 (.c u) (List.mem_map.2 ⟨u,hu,rfl⟩)
    refine⟨?_,this.2⟩
    cases this.1 with|c g=>exact g
  | ar v n c et sz cap rows=>
   simp only[PE.av,AV.den,PE.val] at hq
   have hcap:capAt H b=cap:=by unfold capAt;rw[hb];rfl
   cases hw with
   | o g0 g1 g2 g3=>
    rcases hbok with⟨h1,h2,h3⟩|⟨B,cs,h1,h2,h3,h4,h5,h6,h7⟩
    ·obtain⟨rfl,rfl⟩:=g3 h1
     refine .inl ⟨?_,rfl,rfl,h2,h3⟩
     rw[←hq,h1];rfl
    ·refine .inr ⟨B,cs, ?_,g1,by omega,h2,h3,h4,h5,h6,h7⟩
     rw[←hq,h1];simp
 have hin:∀i j B,inP (H1.set p (.pool l')) i j B→inP H i j B∨(i=p∧j=k∧atB ρ b=some B):=fun i j B hi=>by
  obtain⟨o,h1,h2⟩:=hi
  rw[List.getElem?_set] at h1
  split at h1
  ·rename_i hpi
   subst hpi
   try rw[if_pos (by simpa [H1] using hpl)] at h1
   injection h1 with h1
   subst h1
   obtain⟨l2,x,h3,h4,h5⟩:=h2
   injection h3 with h3
   subst h3
   rcases hl2 j x h4 with⟨rfl,rfl⟩|h6
   ·exact .inr ⟨rfl,rfl,by rw[←heb];exact h5⟩
   ·exact .inl ⟨_,hp,l,x,rfl,h6,h5⟩
  ·exact .inl (zl4 (zx4 (fun _ _ h=>by obtain⟨l,h⟩:=zs1 h;cases h) ⟨o,h1,h2⟩))
 have hm:Mo w S w S:=Mo.refl
 refine⟨h.df,h.sz,fun i y hy=>?_,⟨by simp[h.hp.len],fun i i' B hi hi'=>h.hp.nd i i' B (hat _ _ hi).2 (hat _ _ hi').2,fun i B hi=>h.hp.ap i B (hat _ _ hi).2,fun i B hi=>h.hp.lt i B (hat _ _ hi).2,h.hp.sS,fun i y hy=>?_,⟨fun i j i' j' B h1 h2=>?_,fun i j B h1=>?_⟩⟩,h.st,fun i B hi=>h.nw i B (hat _ _ hi).2,h.nS,fun i j B hi=>?_,fun i hi=>?_,fun hpp i hi=>?_⟩
 ·obtain⟨y',h1,rfl⟩:=zy1 hy
  obtain⟨h2,h3⟩:=h.fr i y' h1
  obtain⟨h4,h5⟩:=h3.killed he hm
  exact⟨by rw[h4];exact h2,h5⟩
 ·rw[List.getElem?_set] at hy
  split at hy
  ·rename_i hpi
   subst hpi
   try rw[if_pos (by simpa [H1] using hpl)] at hy
   injection hy with hy
   subst hy
   refine⟨?_,fun x hx=>?_⟩
   ·unfold atB;rw[List.getElem?_set_ne (Ne.symm hpb)];exact hpool.1
   ·rcases hl1 x hx with rfl|hx
    ·exact heok
    ·exact hpool.2 x hx
  ·rw[List.getElem?_set] at hy
   split at hy
   ·split at hy
    ·injection hy with hy;subst hy;trivial
    ·cases hy
   ·rename_i hbi
    rw[List.getElem?_map] at hy
    cases hz:H[i]? with
    | none=>rw[hz] at hy;cases hy
    | some ob=>
     rw[hz] at hy
     simp only[Option.map_some,Option.some.injEq] at hy
     subst hy
     have ha:atB (ρ.set b none) i=atB ρ i:=by unfold atB;rw[List.getElem?_set_ne hbi]
     rw[ha]
     exact(h.hp.blk i ob hz).killed he hm (fun _ _=>rfl) (fun _ _ _=>rfl)
 ·rcases hin i j B h1 with g|⟨g1,g2,g3⟩ <;> rcases hin i' j' B h2 with g'|⟨g1',g2',g3'⟩
  ·exact h.hp.pl.pd _ _ _ _ _ g g'
  ·exact absurd g3' ((h.hp.pl.ps _ _ _ g).2.1 b)
  ·exact absurd g3 ((h.hp.pl.ps _ _ _ g').2.1 b)
  ·exact⟨g1.trans g1'.symm,g2.trans g2'.symm⟩
 ·rcases hin i j B h1 with g|⟨g1,g2,g3⟩
  ·obtain⟨q1,q2,q3⟩:=h.hp.pl.ps _ _ _ g
   exact⟨q1,fun q hq=>q2 q (hat _ _ hq).2,q3⟩
  ·exact⟨h.hp.ap b B g3,fun q hq=>(hat _ _ hq).1 (h.hp.nd _ _ _ (hat _ _ hq).2 g3),h.hp.lt b B g3⟩
 ·rcases hin i j B hi with g|⟨g1,g2,g3⟩
  ·exact h.pw _ _ _ g
  ·rcases h.nw b B g3 with g4|⟨g4,_⟩
   ·exact g4
   ·omega
 ·obtain⟨h1,h2⟩:=h.ln i hi
  refine⟨by simpa [H1] using h1,fun o ho hs=>?_⟩
  obtain⟨h3,o',h4,h5⟩:=h2 o ho hs
  have hib:i≠b:=by omega
  refine⟨by unfold atB;rw[List.getElem?_set_ne (Ne.symm hib)];exact h3, ?_⟩
  rw[List.getElem?_set]
  split
  ·rename_i hpi
   subst hpi
   try rw[if_pos (by simpa [H1] using h1)]
   rw[hp] at h4
   injection h4 with h4
   subst h4
   exact⟨_,rfl,h5⟩
  ·exact⟨killO (AV.den ρ H) [b] o',by rw[List.getElem?_set_ne (Ne.symm hib),List.getElem?_map,h4];rfl,by rw[zF2];exact h5⟩
 ·have hib:i≠b:=by omega
  have hil:=(h.ln i hi).1
  obtain⟨h1,h2,h3⟩:=h.pn hpp i hi
  exact⟨by rw[he.at_ i hil (by simpa using hib)];exact h1,by rw[he.sz i hil (by simpa using hib)];exact h2,by rw[he.cap i hil (by simpa using hib)];exact h3⟩
theorem zp18 {b q p k:Nat} {l:List PE} (e:PE) (hq:H[q]?=some (.eqv (e.av b) e.val)) (hb:H[b]?=some e.ob) (hne:e≠.out) (hp:H[p]?=some (.pool l)) (hlb:∃n,E.H0.length=n∧Nat.ble n b=true)
    (h:∀g,g (e.av b)=e.val→K (killF g [b] F) (((H.map (killO g [b])).set b .dead).set p (.pool (l.set k e)))):Wk N E F H K:=fun S ρ a w hR=>by
 obtain⟨h1,h2⟩:=hR.hp.blk q _ hq
 obtain⟨n,hn,hnb⟩:=hlb
 refine⟨S,_,_,_,h (AV.den ρ H) h1,hR.putp (k:=k) hb hne hp h1 h2 (fun x hx=>zj10 hx) (fun j x hj=>?_) (by have:=Nat.le_of_ble_eq_true hnb;omega)⟩
 rw[List.getElem?_set] at hj
 split at hj
 ·rename_i hjk
  split at hj
  ·injection hj with hj;exact .inl ⟨hjk.symm,hj.symm⟩
  ·cases hj
 ·exact .inr hj
theorem zV14 {b q p:Nat} {l:List PE} (e:PE) (hq:H[q]?=some (.eqv (e.av b) e.val)) (hb:H[b]?=some e.ob) (hne:e≠.out) (hp:H[p]?=some (.pool l)) (hlb:∃n,E.H0.length=n∧Nat.ble n b=true)
    (h:∀g,g (e.av b)=e.val→K (killF g [b] F) (((H.map (killO g [b])).set b .dead).set p (.pool (l++[e])))):Wk N E F H K:=fun S ρ a w hR=>by
 obtain⟨h1,h2⟩:=hR.hp.blk q _ hq
 obtain⟨n,hn,hnb⟩:=hlb
 refine⟨S,_,_,_,h (AV.den ρ H) h1,hR.putp (k:=l.length) hb hne hp h1 h2 (fun x hx=>?_) (fun j x hj=>?_) (by have:=Nat.le_of_ble_eq_true hnb;omega)⟩
 ·rcases List.mem_append.1 hx with hx|hx
  ·exact .inr hx
  ·exact .inl (List.mem_singleton.1 hx)
 ·rw[List.getElem?_append] at hj
  split at hj
  ·exact .inr hj
  ·rename_i hjl
   rw[List.getElem?_singleton] at hj
   split at hj
   ·injection hj with hj;exact .inl ⟨by omega,hj.symm⟩
   ·cases hj
theorem R.snocN {o:OB} (hR:R N E S ρ F H a w) (ho:OwnB w S (ρ++[none]) (H++[o]) o none) (hnp:∀k B,¬o.hasP k B):R N E S (ρ++[none]) F (H++[o]) a w:=by
 have he:=Ex.snoc (ρ:=ρ) (H:=H) hR.hp.len none o
 have hin:∀i k B,inP (H++[o]) i k B→inP H i k B:=fun i k B=>zx3 hnp
 have hn:∀j B,atB (ρ++[none]) j=some B→atB ρ j=some B:=fun j B hj=>by
  rw[zt] at hj
  split at hj
  ·cases hj
  ·exact hj
 refine hR.ex he Mo.refl ⟨by simp[hR.hp.len],fun j j' B hj hj'=>hR.hp.nd _ _ _ (hn _ _ hj) (hn _ _ hj'),fun j B hj=>hR.hp.ap _ _ (hn _ _ hj),fun j B hj=>hR.hp.lt _ _ (hn _ _ hj),hR.hp.sS,fun j o' ho'=>?_,hR.hp.pl.mono hin (fun _ h=>.inl h) (fun j B hj=>.inl ⟨j,hn _ _ hj⟩) (Nat.le_refl _)⟩ hR.st (fun j B hj=>hR.nw _ _ (hn _ _ hj)) hR.nS (fun i k B h=>hR.pw i k B (hin i k B h))
 rcases Nat.lt_or_ge j H.length with hlt|hge
 ·rw[List.getElem?_append_left hlt] at ho'
  rw[zt,if_neg (by rw[hR.hp.len];omega)]
  exact(hR.hp.blk j o' ho').ex he Mo.refl (fun _ _=>rfl) (fun _ _ _=>rfl)
 ·rw[List.getElem?_append_right hge] at ho'
  cases hq:j - H.length with
  | zero=>
   rw[hq] at ho'
   simp only[List.getElem?_cons_zero,Option.some.injEq] at ho'
   subst ho'
   rw[zt,if_pos (by rw[hR.hp.len];omega)]
   exact ho
  | succ n=>rw[hq] at ho';simp at ho'
theorem zW14 {K1:Fm→List OB→Prop} (h:Wk N E F H K1) (hk:∀F H,K1 F H→Wk N E F H K):Wk N E F H K:=fun S ρ a w hR=>by
 obtain⟨S1,ρ1,F1,H1,h1,hR1⟩:=h S ρ a w hR
 exact hk F1 H1 h1 S1 ρ1 a w hR1
theorem zv13 (h:K F (H++[.pool []])):Wk N E F H K:=fun S ρ a w hR=>by
 have he:=Ex.snoc (ρ:=ρ) (H:=H) hR.hp.len none (.pool [])
 have hin:∀i k B,inP (H++[.pool []]) i k B→inP H i k B:=fun i k B=>zx3 (fun k B ⟨l,e,h1,h2,_⟩=>by injection h1 with h1;subst h1;simp at h2)
 have hn:∀j B,atB (ρ++[none]) j=some B→atB ρ j=some B:=fun j B hj=>by
  rw[zt] at hj
  split at hj
  ·cases hj
  ·exact hj
 refine⟨S,ρ++[none],_,_,h,hR.ex he Mo.refl ⟨by simp[hR.hp.len],fun j j' B hj hj'=>hR.hp.nd _ _ _ (hn _ _ hj) (hn _ _ hj'),fun j B hj=>hR.hp.ap _ _ (hn _ _ hj),fun j B hj=>hR.hp.lt _ _ (hn _ _ hj),hR.hp.sS,fun j o ho=>?_,hR.hp.pl.mono hin (fun _ h=>.inl h) (fun j B hj=>.inl ⟨j,hn _ _ hj⟩) (Nat.le_refl _)⟩ hR.st (fun j B hj=>hR.nw _ _ (hn _ _ hj)) hR.nS (fun i k B h=>hR.pw i k B (hin i k B h))⟩
 rcases Nat.lt_or_ge j H.length with hlt|hge
 ·rw[List.getElem?_append_left hlt] at ho
  rw[zt,if_neg (by rw[hR.hp.len];omega)]
  exact(hR.hp.blk j o ho).ex he Mo.refl (fun _ _=>rfl) (fun _ _ _=>rfl)
 ·rw[List.getElem?_append_right hge] at ho
  cases hq:j - H.length with
  | zero=>
   rw[hq] at ho
   simp only[List.getElem?_cons_zero,Option.some.injEq] at ho
   subst ho
   refine⟨?_,fun e he=>by cases he⟩
   rw[zt,if_pos (by rw[hR.hp.len];omega)]
  | succ n=>rw[hq] at ho;simp at ho
end
end
end Go.Proofs.YtophoepbedlhjaaGreatDoor
