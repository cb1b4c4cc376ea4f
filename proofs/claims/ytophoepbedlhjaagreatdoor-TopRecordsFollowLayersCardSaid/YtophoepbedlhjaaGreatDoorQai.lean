/- The logic over values: a call. -/
import Derived.Test.YtophoepbedlhjaaGreatDoorQah
set_option linter.unusedSimpArgs false
set_option linter.unusedVariables false
namespace Go.Proofs.YtophoepbedlhjaaGreatDoor
open Go Go.RowKit
def embB (m:List Nat) (h b:Nat):Nat:=if b < m.length then m.getD b 0 else h+(b - m.length)
mutual
/-- A value that came back, under the caller's numbers. -/
def AV.emb (m:List Nat) (h:Nat):AV→AV
 | .p b k j=>.p (embB m h b) k j
 | .o b k n z=>.o (embB m h b) k n z
 | .a l=>.a (AV.embL m h l)
 | .t l=>.t (AV.embL m h l)
 | .f fn l=>.f fn (AV.embL m h l)
 | .mp b=>.mp (embB m h b)
 | .c x=>.c x
 | .q v k sz row j=>.q v k sz row j
def AV.embL (m:List Nat) (h:Nat):List AV→List AV
 | []=>[]
 | x :: l=>x.emb m h :: AV.embL m h l
end
theorem AV.embL_eq (m:List Nat) (h:Nat):∀l,AV.embL m h l=l.map (AV.emb m h)
 | []=>rfl
 | x :: l=>by rw[AV.embL,AV.embL_eq m h l];rfl
def OB.emb (m:List Nat) (h:Nat):OB→OB
 | .box l=>.box (AV.embL m h l)
 | .boxt t l=>.boxt t (AV.embL m h l)
 | .eqv x v=>.eqv (x.emb m h) v
 | .itr b s sn l=>.itr (embB m h b) s sn l
 | o=>o
theorem OB.emb_szs (m:List Nat) (h:Nat) (o:OB):(o.emb m h).sz=o.sz∧(o.emb m h).cap=o.cap∧(o.emb m h).shp=o.shp:=by cases o <;> exact⟨rfl,rfl,rfl⟩
theorem OB.szs0 {o:OB} (h:o.shp≠0):o.sz=0∧o.cap=0:=by cases o <;> first|exact⟨rfl,rfl⟩|exact absurd rfl h
def posOf (b:Nat):List Nat→Option Nat
 | []=>none
 | x :: m=>if x == b then some 0 else (posOf b m).map (·+1)
theorem zt1:∀{m:List Nat} {b i:Nat},posOf b m=some i→m[i]?=some b
 | [],_,_,h=>by cases h
 | x :: m,b,i,h=>by
  unfold posOf at h
  split at h
  ·rename_i he;injection h with h;subst h;simpa using he
  ·cases hp:posOf b m with
   | none=>rw[hp] at h;cases h
   | some j=>rw[hp] at h;simp only[Option.map_some,Option.some.injEq] at h;subst h;simpa using zt1 hp
theorem zI2:∀{m:List Nat} {b:Nat},posOf b m=none→b∉m
 | [],_,_=>by simp
 | x :: m,b,h=>by
  unfold posOf at h
  split at h
  ·cases h
  ·rename_i he
   cases hp:posOf b m with
   | none=>have:=zI2 hp;simp at he;simp[this,Ne.symm he]
   | some j=>rw[hp] at h;cases h
theorem zU8:∀{m:List Nat} {b i:Nat},m.Nodup→m[i]?=some b→posOf b m=some i
 | [],_,_,_,h=>by simp at h
 | x :: m,b,i,hd,h=>by
  unfold posOf
  cases i with
  | zero=>simp at h;subst h;simp
  | succ i=>
   simp only[List.getElem?_cons_succ] at h
   have hne:¬x=b:=fun e=>by subst e;exact(List.nodup_cons.1 hd).1 (List.mem_of_getElem? h)
   rw[if_neg (by simpa using hne),zU8 (List.nodup_cons.1 hd).2 h];rfl
def updH (g:AV→Value) (K m:List Nat) (Hr:List OB) (h:Nat):Nat→List OB→List OB
 | _,[]=>[]
 | b,o :: l=>(match posOf b m with|some i=>(Hr.getD i .dead).emb m h|none=>killO g K o) :: updH g K m Hr h (b+1) l
theorem zJ3 (g:AV→Value) (K m:List Nat) (Hr:List OB) (h:Nat):∀(b:Nat) (l:List OB),(updH g K m Hr h b l).length=l.length
 | _,[]=>rfl
 | b,o :: l=>by rw[updH,List.length_cons,zJ3 g K m Hr h (b+1) l];rfl
theorem zG8 (g:AV→Value) (K m:List Nat) (Hr:List OB) (h:Nat):∀(b:Nat) (l:List OB) (i:Nat) (o:OB),l[i]?=some o→(updH g K m Hr h b l)[i]?=some (match posOf (b+i) m with|some i=>(Hr.getD i .dead).emb m h|none=>killO g K o)
 | b,[],i,o,hi=>by simp at hi
 | b,x :: l,i,o,hi=>by
  cases i with
  | zero=>simp at hi;subst hi;rfl
  | succ i=>
   rw[updH,List.getElem?_cons_succ,zG8 g K m Hr h (b+1) l i o (by simpa using hi),show b+1+i=b+(i+1) from by omega]
def lentArr (H:List OB) (m:List Nat):List Nat:=m.filter fun b=>match H[b]? with|some (.arr ..)=>true|some (.eqv ..)=>true|some (.itr ..)=>true|some (.sit ..)=>true|some .dead=>true|_=>false
theorem CvM.szs0 {m:List (Option Nat)} {o o':OB} (h:CvM m o o'):o.sz=0∧o.cap=0:=by cases h <;> exact⟨rfl,rfl⟩
theorem CvM.lent {m:List (Option Nat)} {o o':OB} (h:CvM m o o') (hs:o.shp=0):(match some o with|some (.arr ..)=>true|some (.eqv ..)=>true|some (.itr ..)=>true|some (.sit ..)=>true|some .dead=>true|_=>false)=true:=by cases h <;> first|rfl|cases hs
def lentK (pin:Bool) (H:List OB) (m:List Nat):List Nat:=match pin with
 | true=>[]
 | false=>lentArr H m
def CV.flat:CV→Prop
 | .s _=>True
 | .r v rows=>v = .slice none 0 0∧rows = []
 | .p _ _=>False
 | .f _ _ _=>False
inductive FlatA (K:CV→Prop):AV→Prop where
 | c {x:CV} (h:x.flat∨K x):FlatA K (.c x)
 | p {b k j:Nat}:FlatA K (.p b k j)
 | o {b k n c:Nat}:FlatA K (.o b k n c)
 | a {l:List AV} (h:∀x∈l,FlatA K x):FlatA K (.a l)
 | t {l:List AV} (h:∀x∈l,FlatA K x):FlatA K (.t l)
 | f {fn:Fn} {l:List AV} (h:∀x∈l,FlatA K x):FlatA K (.f fn l)
 | mp {b:Nat}:FlatA K (.mp b)
def PE.Flat (K:CV→Prop):PE→Prop
 | .bx _ l=>∀u∈l,u.flat∨K u
 | .ar _ _ _ _ _ _ rows=>∀row∈rows,∀u∈row,u.flat∨K u
 | .out=>True
def FlatO (K:CV→Prop):OB→Prop
 | .pool l=>∀e∈l,e.Flat K
 | .box l=>∀x∈l,FlatA K x
 | .boxt _ l=>∀x∈l,FlatA K x
 | .arr _ _ _ rows=>∀row∈rows,∀u∈row,u.flat∨K u
 | .dead=>True
 | .eqv x _=>FlatA K x
 | .map es _=>∀e∈es,e.2.2.flat∨K e.2.2
 | .itr ..=>True
 | .sit ..=>True
 | .bts ..=>True
def Known (F:Fm) (H:List OB) (x:CV):Prop:=(∃i,F.lookup i=some (.c x))∨∃(b:Nat) (l:List AV),H[b]?=some (OB.box l)∧AV.c x∈l
theorem CV.flat.good {x:CV} (h:x.flat) (w:World) (S:Nat→Prop):Good w S x:=by
 cases x with
 | s v=>exact .s v
 | r v rows=>obtain⟨rfl,rfl⟩:=h;exact .nil _ _
 | p v row=>exact h.elim
 | f v fn caps=>exact h.elim
theorem PE.Flat.ok {K:CV→Prop} {e:PE} (h:e.Flat K) {w:World} {S S':Nat→Prop} (hw:PEok w S e) (hK:∀x,K x→Good w S' x):PEok w S' e:=by
 cases e with
 | bx v l=>
  obtain⟨B,t,h1,h2,h3⟩:=hw
  exact⟨B,t,h1,h2,fun u hu=>⟨(h u hu).elim (fun h=>h.good _ _) (hK _),(h3 u hu).2⟩⟩
 | ar v n c e sz cap rows=>
  rcases hw with hw|⟨B,cs,h1,h2,h3,h4,h5,h6,h7,h8,h9⟩
  ·exact .inl hw
  ·exact .inr ⟨B,cs,h1,h2,h3,h4,h5,h6,h7,fun row hr=>⟨(h8 row hr).1,fun u hu=>⟨(h row hr u hu).elim (fun h=>h.good _ _) (hK _),((h8 row hr).2 u hu).2⟩⟩,h9⟩
 | out=>trivial
theorem FlatA.wf {K:CV→Prop} {x:AV} (h:FlatA K x) {w:World} {S S':Nat→Prop} {ρ:List (Option Nat)} {H:List OB} (hw:WF w S ρ H x) (hK:∀x,K x→Good w S' x):WF w S' ρ H x:=by
 induction hw with
 | c g=>cases h with|c h=>exact .c (h.elim (fun h=>h.good _ _) (hK _))
 | p h0 h'=>exact .p h0 h'
 | o h0 h1 h2 h3=>exact .o h0 h1 h2 h3
 | q=>cases h
 | a g ih=>cases h with|a h=>exact .a fun x hx=>ih x hx (h x hx)
 | t g ih=>cases h with|t h=>exact .t fun x hx=>ih x hx (h x hx)
 | f g ih=>cases h with|f h=>exact .f fun x hx=>ih x hx (h x hx)
 | mp h0 h'=>exact .mp h0 h'
theorem FlatO.own {K:CV→Prop} {o:OB} (h:FlatO K o) {w:World} {S S':Nat→Prop} {ρ:List (Option Nat)} {H:List OB} {m:Option Nat} (hw:OwnB w S ρ H o m) (hK:∀x,K x→Good w S' x):OwnB w S' ρ H o m:=by
 cases o with
 | pool l=>exact⟨hw.1,fun e he=>(h e he).ok (hw.2 e he) hK⟩
 | box l=>
  obtain⟨B,t,h1,h2,h3⟩:=hw
  exact⟨B,t,h1,h2,fun x hx=>⟨(h x hx).wf (h3 x hx).1 hK,(h3 x hx).2⟩⟩
 | arr e sz cap rows=>
  rcases hw with hw|⟨B,cs,h1,h2,h3,h4,h5,h6,h7⟩
  ·exact .inl hw
  ·exact .inr ⟨B,cs,h1,h2,h3,h4,h5,fun row hr=>⟨(h6 row hr).1,fun u hu=>⟨(h row hr u hu).elim (fun h=>h.good _ _) (hK _),((h6 row hr).2 u hu).2⟩⟩,h7⟩
 | dead=>trivial
 | eqv x v=>exact⟨hw.1,FlatA.wf h hw.2 hK⟩
 | map es ck=>
  obtain⟨B,ms,h1,h2,h3,h4⟩:=hw
  exact⟨B,ms,h1,h2,h3,fun e he=>(h e he).elim (fun h=>h.good _ _) (hK _)⟩
 | itr b s sn l=>exact hw
 | sit s p=>exact hw
 | bts v l=>exact hw
 | boxt t l=>
  obtain⟨B,h1,h2,h3⟩:=hw
  exact⟨B,h1,h2,fun x hx=>⟨(h x hx).wf (h3 x hx).1 hK,(h3 x hx).2⟩⟩
theorem FlatA.emb {K:CV→Prop} {m:List Nat} {h:Nat} {x:AV} (hx:FlatA K x):FlatA K (x.emb m h):=by
 induction hx with
 | c h=>exact .c h
 | p=>exact .p
 | o=>exact .o
 | a h ih=>refine .a fun y hy=>?_;rw[AV.embL_eq] at hy;obtain⟨x,hx,rfl⟩:=List.mem_map.1 hy;exact ih x hx
 | t h ih=>refine .t fun y hy=>?_;rw[AV.embL_eq] at hy;obtain⟨x,hx,rfl⟩:=List.mem_map.1 hy;exact ih x hx
 | f h ih=>refine .f fun y hy=>?_;rw[AV.embL_eq] at hy;obtain⟨x,hx,rfl⟩:=List.mem_map.1 hy;exact ih x hx
 | mp=>exact .mp
def evL (F:Fm):List Operand→Option (List AV)
 | []=>some []
 | x :: l=>match ev F x,evL F l with
  | some v,some vs=>some (v :: vs)
  | _,_=>none
theorem zT4 {N:Nat} {E:Env} {S:Nat→Prop} {ρ:List (Option Nat)} {F:Fm} {H:List OB} {a:Act} {w:World} (hR:R N E S ρ F H a w):∀{l:List Operand} {vs:List AV},evL F l=some vs→l.map a.eval=vs.map (AV.den ρ H)∧∀v∈vs,WF w S ρ H v
 | [],vs,h=>by injection h with h;subst h;exact⟨rfl,fun _ h=>by cases h⟩
 | x :: l,vs,h=>by
  unfold evL at h
  cases h1:ev F x with
  | none=>rw[h1] at h;cases h
  | some v=>
   cases h2:evL F l with
   | none=>rw[h1,h2] at h;cases h
   | some vs'=>
    rw[h1,h2] at h
    injection h with h
    subst h
    obtain⟨h3,h4⟩:=hR.ev h1
    obtain⟨h5,h6⟩:=zT4 hR h2
    refine⟨by rw[List.map_cons,List.map_cons,h3,h5],fun u hu=>?_⟩
    rcases List.mem_cons.1 hu with rfl|hu
    ·exact h4
    ·exact h6 u hu
def okFn (P:Program) (f:FuncId):Bool:=match P.funcs[f]? with|some fn=>fn.name != "runtime.NumGoroutine" && fn.body.isSome|none=>false
theorem zF1 {P:Program} {f:FuncId} {args:Array Value} {w:World} (h:okFn P f=true):(callFunc f args).run P w = .ok (.enter f args) w:=by
 unfold okFn at h
 cases hf:P.funcs[f]? with
 | none=>rw[hf] at h;cases h
 | some fn=>
  rw[hf] at h
  simp only[Bool.and_eq_true,bne_iff_ne,ne_eq] at h
  unfold callFunc
  simp only[Sem.run_bind,run_program,Result.andThen_ok,hf]
  rw[if_neg (by simpa using h.1),if_neg (by cases hb:fn.body <;> simp_all)]
  rfl
structure XW where
 X:World→List (Option Nat)→List OB→Prop
 mono:∀{w:World} {ρ ρ':List (Option Nat)} {H H':List OB},X w ρ H→(∀i B,atB ρ' i=some B→∃j,atB ρ j=some B)→(∀i k B,inP H' i k B→∃i k,inP H i k B)→X w ρ' H'
 step:∀{w w':World} {ρ ρ':List (Option Nat)} {H H':List OB},X w ρ H→Stp w w' (fun B=>(∃i,atB ρ i=some B)∨∃i k,inP H i k B)→(∀i B,atB ρ' i=some B→(w.heap.size≤B∨∃i k,inP H i k B)∨∃j,atB ρ j=some B)→(∀i k B,inP H' i k B→w.heap.size≤B∨∃i k,inP H i k B)→X w' ρ' H'
def XW.all:XW:=⟨fun _ _ _=>True,fun _ _ _=>trivial,fun _ _ _ _=>trivial⟩
def ACallsW (X:XW) (pin:Bool) (P:Program) (f:FuncId) (args:List AV) (H:List OB) (Q:AV→List OB→Prop):Prop:=
 ∀S ρ w,X.X w ρ H→RH w S ρ H→(∀x∈args,WF w S ρ H x)→Calls P f (args.map (AV.den ρ H)).toArray w fun e w'=>∃u H' ρ' S',e = .returned (u.den ρ' H')∧Q u H'∧WF w' S' ρ' H' u∧RH w' S' ρ' H' ∧
  Stp w w' (fun B=>(∃i,atB ρ i=some B)∨∃i k,inP H i k B)∧(∀b,S' b→S b∨(w.heap.size≤b∨∃i k,inP H i k b))∧(∀i B,atB ρ' i=some B→(w.heap.size≤B∨∃i k,inP H i k B)∨(i < H.length∧atB ρ i=some B)) ∧
  (∀i k B,inP H' i k B→w.heap.size≤B∨∃i k,inP H i k B) ∧
  (∀i,i < H.length→i < H'.length∧∀o,H[i]?=some o→o.shp≠0→atB ρ' i=atB ρ i∧∃o',H'[i]?=some o'∧o'.shp=o.shp) ∧
  (pin=true→∀i,i < H.length→atB ρ' i=atB ρ i∧szAt H' i=szAt H i∧capAt H' i=capAt H i)
section
variable {P:Program} {N:Nat} {E:Env} {F:Fm} {H:List OB} {o:Oper}
inductive Callee' (F:Fm):Operand→FuncId→List AV→List AV→Prop where
 | fn {f:FuncId} {vs:List AV}:Callee' F (.func f) f vs vs
 | clo {x:Operand} {f:FuncId} {caps vs:List AV} (h:ev F x=some (.f (.func f) caps)):Callee' F x f vs (vs++caps)
 | bnd {x:Operand} {f:FuncId} {bs vs:List AV} (h:ev F x=some (.f (.via 0 #[] f false) bs)):Callee' F x f vs (bs++vs)
 | cf {x:Operand} {f:FuncId} {v:Value} {caps:List CV} {vs:List AV} (h:ev F x=some (.c (.f v (.func f) caps))):Callee' F x f vs (vs++caps.map .c)
theorem zs11 (X:XW) (hX:∀S ρ a w,R N E S ρ F H a w→X.X w ρ H) (pin:Bool) {f:FuncId} {fx:Operand} {args:Array Operand} {tys:Array TypeId} {d:Nat} {vs all:List AV} {us:(AV→Value)→List AV} (m:List Nat) (Hc:(AV→Value)→List OB) {Qc:(AV→Value)→AV→List OB→Prop} (fz:Bool)
    (hc:∀g,ACallsW X pin P f (us g) (Hc g) (Qc g)) (ho:o.op = .call { callee:=.value fx,args:=args,argTypes:=tys }) (hfx:Callee' F fx f vs all) (hd:o.dst=some d) (hN:d < N) (hf:okFn P f=true) (hargs:evL F args.toList=some vs)
    (hcv:∀g,CvL g (m.map some) H fz all (us g)) (hm:m.Nodup) (hH:∀g,CvH g (m.map some) H fz (m.map some) (Hc g)) (hfl:fz=true→∀g u Hr,Qc g u Hr→FlatA (Known F H) u∧∀o∈Hr,FlatO (Known F H) o) (hpin:(∃q,E.H0.length=q∧((lentK pin H m).all fun b=>Nat.ble q b)=true)∨E.pin=false) :
    Ef P N E o F H fun F' H'=>∃g u Hr,m.length≤Hr.length∧Qc g u Hr∧F'=(d,u.emb m H.length) :: killF g (lentK pin H m) F∧H'=updH g (lentK pin H m) m Hr H.length 0 H++(Hr.drop m.length).map (OB.emb m H.length):=fun S ρ a w hR=>by
 obtain⟨h1,h2⟩:=zT4 hR hargs
 obtain⟨bs,cs,rfl,hbs,hcs,hev⟩:∃bs cs:List AV,all=bs++vs++cs∧(∀v∈bs,WF w S ρ H v)∧(∀v∈cs,WF w S ρ H v)∧a.eval fx = .func (.func f) (bs.map (AV.den ρ H)).toArray (cs.map (AV.den ρ H)).toArray:=by
  cases hfx with
  | fn=>exact⟨[],[],by simp,fun v h=>(List.not_mem_nil h).elim,fun v h=>(List.not_mem_nil h).elim,rfl⟩
  | @clo _ _ caps _ h=>
   obtain⟨h3,h4⟩:=hR.ev h
   cases h4 with
   | f h4=>exact⟨[],caps,by simp,fun v h=>(List.not_mem_nil h).elim,h4,by rw[h3,AV.den,AV.denL_eq];rfl⟩
  | @bnd _ _ bs _ h=>
   obtain⟨h3,h4⟩:=hR.ev h
   cases h4 with
   | f h4=>exact⟨bs,[],by simp,h4,fun v h=>(List.not_mem_nil h).elim,by rw[h3,AV.den,AV.denL_eq];rfl⟩
  | @cf _ _ v caps _ h=>
   obtain⟨h3,h4⟩:=hR.ev h
   cases h4 with
   | c h4=>cases h4 with
    | f _ _ hg=>exact⟨[],caps.map .c,by simp,fun v h=>(List.not_mem_nil h).elim,fun v hv=>by obtain⟨u,hu,rfl⟩:=List.mem_map.1 hv;exact .c (hg u hu),by rw[h3,AV.den,CV.den,List.map_map];rfl⟩
 let g:=AV.den ρ H
 have hHg:=hH g
 have hmn:((m.map some).filterMap id).Nodup:=by simpa using hm
 obtain⟨h5,h6⟩:=(hcv g).sound hR.hp rfl hHg (fun x hx=>by
  rcases List.mem_append.1 hx with hx|hx
  ·rcases List.mem_append.1 hx with hx|hx
   ·exact hbs x hx
   ·exact h2 x hx
  ·exact hcs x hx)
 have hRH:=hR.hp.re (g:=g) rfl hmn hHg
 have hlenc:m.length=(Hc g).length:=by simpa using hHg.spec.1
 unfold effO
 have hex:(execOp a.eval o).run P w = .ok (.enter f ((us g).map (AV.den (reB ρ (m.map some)) (Hc g))).toArray) w:=by
  unfold execOp
  simp only[ho,resolve,hev,Deferred.ofValue,Sem.run_bind,Sem.run_pure,Result.andThen_ok,invoke]
  rw[zF1 hf]
  congr 2
  have:(args.map a.eval).toList=vs.map (AV.den ρ H):=by rw[←h1];simp
  rw[h5,List.map_append,List.map_append]
  apply Array.toList_inj.1
  simp only[Array.toList_append,this,List.append_nil,Array.append_empty,Array.empty_append]
 rw[hex]
 have hXc:X.X w (reB ρ (m.map some)) (Hc g):=X.mono (hX _ _ _ _ hR) (fun i B hi=>by
  cases hmi:m[i]? with
  | none=>rw[zK] at hi;simp[hmi] at hi
  | some b=>rw[zK] at hi;simp[hmi] at hi;exact⟨b,hi⟩) (fun i k B hi=>by
  obtain⟨b,e1,e2⟩:=hHg.inP hi
  exact⟨_,k,e2⟩)
 refine(hc g _ _ w hXc hRH (fun x hx=>(h6 x hx).1)).mono ?_
 rintro e w' ⟨u,Hr,ρ',S',rfl,hQ,hu,hRr,hst,hS',hρ',hpw,hln,hpn⟩
 refine⟨_,rfl, ?_⟩
 -- the caller's blocks behind the call
 have hatm:∀i b,m[i]?=some b→atB (reB ρ (m.map some)) i=atB ρ b:=fun i b hi=>by rw[zK];simp[hi]
 have hlentB:∀B,(∃i,atB (reB ρ (m.map some)) i=some B)→∃b∈m,atB ρ b=some B:=fun B ⟨i,hi⟩=>by
  cases hmi:m[i]? with
  | none=>rw[zK] at hi;simp[hmi] at hi
  | some b=>exact⟨b,List.mem_of_getElem? hmi,by rw[←hatm i b hmi];exact hi⟩
 have hlentP:∀B,(∃i k,inP (Hc g) i k B)→∃b∈m,∃k,inP H b k B:=fun B ⟨i,k,hi⟩=>by
  obtain⟨b,e1,e2⟩:=hHg.inP hi
  rw[List.getElem?_map] at e1
  cases hmi:m[i]? with
  | none=>rw[hmi] at e1;cases e1
  | some b'=>rw[hmi] at e1;simp only[Option.map_some,Option.some.injEq] at e1;subst e1;exact⟨b',List.mem_of_getElem? hmi,k,e2⟩
 have hml:∀i b,m[i]?=some b→i < Hr.length∧b < H.length:=fun i b hi=>by
  have hlt:=(List.getElem?_eq_some_iff.1 hi).1
  refine⟨(hln i (by omega)).1, ?_⟩
  obtain⟨_,hsp⟩:=hHg.spec
  rcases hsp i _ (List.getElem?_eq_getElem (by omega)) with⟨c,l,l',e1,e2,_⟩|⟨c,e,sz,cap,rows,e1,e2,_⟩|⟨e,sz,e1,_⟩|⟨c,x,x',v,e1,e2,_⟩|⟨c,e,sz,cap,rows,rows',e1,e2,_⟩|⟨c,o,e1,e2,_⟩
  ·simp[hi] at e1;subst e1;exact(List.getElem?_eq_some_iff.1 e2).1
  ·simp[hi] at e1;subst e1;exact(List.getElem?_eq_some_iff.1 e2).1
  ·simp[hi] at e1
  ·simp[hi] at e1;subst e1;exact(List.getElem?_eq_some_iff.1 e2).1
  ·simp[hi] at e1;subst e1;exact(List.getElem?_eq_some_iff.1 e2).1
  ·simp[hi] at e1;subst e1;exact(List.getElem?_eq_some_iff.1 e2).1
 have hmlen:m.length≤Hr.length:=by
  rcases Nat.eq_zero_or_pos m.length with h|h
  ·omega
  ·have:=(hml (m.length - 1) _ (List.getElem?_eq_getElem (by omega))).1;omega
 let K:=lentK pin H m
 have hKl:∀b∈K,b∈lentArr H m∧pin=false:=fun b hb=>by
  have hb':b∈lentK pin H m:=hb
  cases hpi:pin with
  | false=>rw[hpi] at hb';exact⟨hb',rfl⟩
  | true=>rw[hpi] at hb';exact absurd hb' List.not_mem_nil
 let Hn:=updH g K m Hr H.length 0 H++(Hr.drop m.length).map (OB.emb m H.length)
 let ρn:List (Option Nat):=(List.range H.length).map (fun b=>match posOf b m with|some i=>atB ρ' i|none=>atB ρ b)++(List.range (Hr.length - m.length)).map (fun k=>atB ρ' (m.length+k))
 have hHnl:Hn.length=H.length+(Hr.length - m.length):=by simp[Hn,zJ3]
 have hρnl:ρn.length=H.length+(Hr.length - m.length):=by simp[ρn]
 have hat1:∀b,b < H.length→atB ρn b=match posOf b m with|some i=>atB ρ' i|none=>atB ρ b:=fun b hb=>by
  conv=>lhs;unfold atB
  simp only[ρn]
  rw[List.getElem?_append_left (by simpa using hb),List.getElem?_map,List.getElem?_range hb]
  rfl
 have hat2:∀k,k < Hr.length - m.length→atB ρn (H.length+k)=atB ρ' (m.length+k):=fun k hk=>by
  conv=>lhs;unfold atB
  simp only[ρn]
  rw[List.getElem?_append_right (by simp),List.getElem?_map]
  simp only[List.length_map,List.length_range,Nat.add_sub_cancel_left]
  rw[List.getElem?_range hk]
  rfl
 have hHn1:∀b o,H[b]?=some o→Hn[b]?=some (match posOf b m with|some i=>(Hr.getD i .dead).emb m H.length|none=>killO g K o):=fun b o hb=>by
  have hlt:=(List.getElem?_eq_some_iff.1 hb).1
  simp only[Hn]
  rw[List.getElem?_append_left (by rw[zJ3];exact hlt),zG8 g K m Hr H.length 0 H b o hb,Nat.zero_add]
 have hHn2:∀k o,Hr[m.length+k]?=some o→Hn[H.length+k]?=some (o.emb m H.length):=fun k o hk=>by
  simp only[Hn]
  rw[List.getElem?_append_right (by rw[zJ3];omega),zJ3,Nat.add_sub_cancel_left,List.getElem?_map,List.getElem?_drop,hk]
  rfl
 have hemb:∀i o,Hr[i]?=some o→atB ρn (embB m H.length i)=atB ρ' i∧Hn[embB m H.length i]?=some (o.emb m H.length)∧embB m H.length i < Hn.length:=fun i o hi=>by
  have hil:=(List.getElem?_eq_some_iff.1 hi).1
  unfold embB
  by_cases him:i < m.length
  ·have hmi:m[i]?=some (m.getD i 0):=by simp[him]
   rw[if_pos him]
   generalize m.getD i 0=b at hmi
   have hb:=(hml i b hmi).2
   have hpos:=zU8 hm hmi
   refine⟨by rw[hat1 b hb,hpos], ?_,by omega⟩
   rw[hHn1 b _ (List.getElem?_eq_getElem hb),hpos]
   simp[hi]
  ·rw[if_neg him]
   refine⟨by rw[hat2 _ (by omega),show m.length+(i - m.length)=i from by omega],hHn2 _ o (by rw[show m.length+(i - m.length)=i from by omega];exact hi),by omega⟩
 have hexn:∀x,WF w' S' ρ' Hr x→(x.emb m H.length).den ρn Hn=x.den ρ' Hr∧WF w' S' ρn Hn (x.emb m H.length):=fun x hx=>by
  have key:∀b,b < Hr.length→atB ρn (embB m H.length b)=atB ρ' b∧szAt Hn (embB m H.length b)=szAt Hr b∧capAt Hn (embB m H.length b)=capAt Hr b∧embB m H.length b < Hn.length:=fun b hb=>by
   obtain⟨e1,e2,e3⟩:=hemb b _ (List.getElem?_eq_getElem hb)
   refine⟨e1, ?_, ?_,e3⟩
   ·unfold szAt;rw[e2,List.getElem?_eq_getElem hb];exact(OB.emb_szs _ _ _).1
   ·unfold capAt;rw[e2,List.getElem?_eq_getElem hb];exact(OB.emb_szs _ _ _).2.1
  induction hx with
  | c h=>exact⟨rfl,.c h⟩
  | p h0 h=>obtain⟨e1,e2,e3,e4⟩:=key _ h0;exact⟨by simp only[AV.emb,AV.den,e1,e2],.p e4 (by rw[e1];exact h)⟩
  | o h0 h1 h2 h3=>obtain⟨e1,e2,e3,e4⟩:=key _ h0;exact⟨by simp only[AV.emb,AV.den,e1,e2],.o e4 h1 (by rw[e3];exact h2) (by rw[e1];exact h3)⟩
  | q h1 h2 h3=>exact⟨rfl,.q h1 h2 h3⟩
  | @a l h ih=>
   refine⟨by simp only[AV.emb,AV.den,AV.denL_eq,AV.embL_eq,List.map_map];rw[List.map_congr_left (f:=AV.den ρn Hn ∘ AV.emb m H.length) fun x hx=>(ih x hx).1],.a fun y hy=>?_⟩
   rw[AV.embL_eq] at hy
   obtain⟨x,hx,rfl⟩:=List.mem_map.1 hy
   exact(ih x hx).2
  | @t l h ih=>
   refine⟨by simp only[AV.emb,AV.den,AV.denL_eq,AV.embL_eq,List.map_map];rw[List.map_congr_left (f:=AV.den ρn Hn ∘ AV.emb m H.length) fun x hx=>(ih x hx).1],.t fun y hy=>?_⟩
   rw[AV.embL_eq] at hy
   obtain⟨x,hx,rfl⟩:=List.mem_map.1 hy
   exact(ih x hx).2
  | @f fn l h ih=>
   refine⟨by simp only[AV.emb,AV.den,AV.denL_eq,AV.embL_eq,List.map_map];rw[List.map_congr_left (f:=AV.den ρn Hn ∘ AV.emb m H.length) fun x hx=>(ih x hx).1],.f fun y hy=>?_⟩
   rw[AV.embL_eq] at hy
   obtain⟨x,hx,rfl⟩:=List.mem_map.1 hy
   exact(ih x hx).2
  | mp h0 h=>obtain⟨e1,e2,e3,e4⟩:=key _ h0;exact⟨by simp only[AV.emb,AV.den,e1],.mp e4 (by rw[e1];exact h)⟩
 have hexo:∀o q,OwnB w' S' ρ' Hr o q→OwnB w' S' ρn Hn (o.emb m H.length) q:=fun o q ho=>by
  cases o with
  | box l=>
   obtain⟨B,t,h1,h2,h3⟩:=ho
   refine⟨B,t,h1, ?_,fun y hy=>?_⟩
   ·rw[h2,AV.embL_eq,List.map_map,List.map_congr_left (fun x hx=>((hexn x (h3 x hx).1).1).symm)];rfl
   ·rw[AV.embL_eq] at hy
    obtain⟨x,hx,rfl⟩:=List.mem_map.1 hy
    obtain⟨e1,e2⟩:=hexn x (h3 x hx).1
    exact⟨e2,by rw[e1];exact(h3 x hx).2⟩
  | arr e sz cap rows=>exact ho
  | pool l=>exact ho
  | dead=>trivial
  | eqv x v=>exact⟨(hexn x ho.2).1.trans ho.1,(hexn x ho.2).2⟩
  | map es ck=>exact ho
  | itr b s sn l=>
   obtain⟨B,h1,h2,h3,h4⟩:=ho
   obtain⟨e1,e2,e3⟩:=hemb b _ (List.getElem?_eq_getElem h3)
   exact⟨B,h1,by rw[e1];exact h2,e3,by rw[e1];exact h4⟩
  | sit s p=>exact ho
  | bts v l=>exact ho
  | boxt t l=>
   obtain⟨B,h1,h2,h3⟩:=ho
   refine⟨B,h1, ?_,fun y hy=>?_⟩
   ·rw[h2,AV.embL_eq,List.map_map,List.map_congr_left (fun x hx=>((hexn x (h3 x hx).1).1).symm)];rfl
   ·rw[AV.embL_eq] at hy
    obtain⟨x,hx,rfl⟩:=List.mem_map.1 hy
    obtain⟨e1,e2⟩:=hexn x (h3 x hx).1
    exact⟨e2,by rw[e1];exact(h3 x hx).2⟩
 -- what is only read, behind the call
 let Sn:Nat→Prop:=fun b=>S b∨((w.heap.size≤b∨∃i k,inP (Hc g) i k b)∧S' b)
 have hSS:∀b,S' b→Sn b∨fz=true:=fun b hb=>by
  rcases hS' b hb with(h|⟨h,_⟩)|h
  ·exact .inl (.inl h)
  ·exact .inr h
  ·exact .inl (.inr ⟨h,hb⟩)
 have hmo:Mo w S w' Sn:=fun b hb=>⟨.inl hb,hst.block b (hR.hp.sS b hb) (fun h=>by
  rcases h with h|h
  ·obtain⟨c,hc,hcB⟩:=hlentB b h
   exact hR.hp.ap c b hcB hb
  ·obtain⟨c,hc,k,hcB⟩:=hlentP b h
   exact(hR.hp.pl.ps c k b hcB).1 hb)⟩
 have hKn:∀x,Known F H x→Good w' Sn x:=fun x hx=>by
  refine Good.mono (w:=w) (S:=S) ?_ hmo
  rcases hx with⟨i,hi⟩|⟨b,l,hb,hx⟩
  ·cases (hR.fr i _ hi).2 with|c g=>exact g
  ·obtain⟨_,_,_,_,h3⟩:=hR.hp.blk b _ hb
   cases (h3 _ hx).1 with|c g=>exact g
 have hwfS:∀x,WF w' S' ρ' Hr x→FlatA (Known F H) x∨fz=false→WF w' Sn ρn Hn (x.emb m H.length):=fun x hx hfx=>by
  have h3:=(hexn x hx).2
  rcases hfx with hfx|hfx
  ·exact(hfx.emb).wf h3 hKn
  ·exact h3.ex (Ex.refl _ _) (fun b hb=>⟨(hSS b hb).resolve_right (by rw[hfx];simp),rfl⟩)
 have hownS:∀o q,OwnB w' S' ρ' Hr o q→FlatO (Known F H) o∨fz=false→OwnB w' Sn ρn Hn (o.emb m H.length) q:=fun o q ho hfo=>by
  have h3:=hexo o q ho
  rcases hfo with hfo|hfo
  ·refine FlatO.own (K:=Known F H) ?_ h3 hKn
   cases o with
   | box l=>
    intro y hy
    rw[AV.embL_eq] at hy
    obtain⟨x,hx,rfl⟩:=List.mem_map.1 hy
    exact(hfo x hx).emb
   | arr e sz cap rows=>exact hfo
   | pool l=>exact hfo
   | dead=>trivial
   | eqv x v=>exact FlatA.emb hfo
   | map es ck=>exact hfo
   | itr b s sn l=>trivial
   | sit s p=>trivial
   | bts v l=>trivial
   | boxt t l=>
    intro y hy
    rw[AV.embL_eq] at hy
    obtain⟨x,hx,rfl⟩:=List.mem_map.1 hy
    exact(hfo x hx).emb
  ·exact h3.ex (Ex.refl _ _) (fun b hb=>⟨(hSS b hb).resolve_right (by rw[hfo];simp),rfl⟩) (fun _ _=>rfl) (fun _ _ _=>rfl)
 have hflu:FlatA (Known F H) u∨fz=false:=by
  cases hz:fz with
  | false=>exact .inr rfl
  | true=>exact .inl (hfl hz g u Hr hQ).1
 have hflo:∀o∈Hr,FlatO (Known F H) o∨fz=false:=fun o ho=>by
  cases hz:fz with
  | false=>exact .inr rfl
  | true=>exact .inl ((hfl hz g u Hr hQ).2 o ho)
 have hexb:ExB K ρ H ρn Hn:=by
  have hkey:∀i,i < H.length→i∉K→(∃j o',posOf i m=some j∧Hr[j]?=some o'∧atB ρ' j=atB ρ i∧o'.sz=szAt H i∧o'.cap=capAt H i)∨posOf i m=none:=fun i hi hK=>by
   cases hp:posOf i m with
   | none=>exact .inr rfl
   | some j=>
    have hmj:=zt1 hp
    refine .inl ?_
    have hjl:=(List.getElem?_eq_some_iff.1 hmj).1
    obtain⟨_,hsp⟩:=hHg.spec
    have hHcj:(Hc g)[j]?=some ((Hc g)[j]'(by omega)):=List.getElem?_eq_getElem (by omega)
    rcases hsp j _ hHcj with⟨c,l,l',e1,e2,e3,_⟩|⟨c,e,sz,cap,rows,e1,e2,e3⟩|⟨e,sz,e1,_⟩|⟨c,x,x',v,e1,e2,e3,_⟩|⟨c,e,sz,cap,rows,rows',e1,e2,e3,_⟩|⟨c,o,e1,e2,e3⟩
    rotate_right
    ·simp[hmj] at e1
     subst e1
     have h0:szAt H i=0∧capAt H i=0:=by unfold szAt capAt;rw[e2];exact e3.szs0
     by_cases hs:((Hc g)[j]'(by omega)).shp=0
     ·cases hpi:pin with
      | false=>
       refine absurd ?_ hK
       show i∈lentK pin H m
       rw[hpi]
       refine List.mem_filter.2 ⟨List.mem_of_getElem? hmj, ?_⟩
       rw[e2]
       rw[e3.szs.2.2] at hs
       exact e3.lent hs
      | true=>
       obtain⟨q1,q2,q3⟩:=hpn hpi j (by omega)
       have hjr:=(hml j i hmj).1
       refine⟨j,_,rfl,List.getElem?_eq_getElem hjr,by rw[q1,hatm j _ hmj], ?_, ?_⟩
       ·have e4:szAt Hr j=(Hr[j]).sz:=by unfold szAt;rw[List.getElem?_eq_getElem hjr]
        have e5:szAt (Hc g) j=szAt H i:=by unfold szAt;rw[hHcj,e2];exact e3.szs.1
        rw[←e4,q2,e5]
       ·have e4:capAt Hr j=(Hr[j]).cap:=by unfold capAt;rw[List.getElem?_eq_getElem hjr]
        have e5:capAt (Hc g) j=capAt H i:=by unfold capAt;rw[hHcj,e2];exact e3.szs.2.1
        rw[←e4,q3,e5]
     ·obtain⟨_,hq⟩:=hln j (by omega)
      obtain⟨q1,o2,q2,q3⟩:=hq _ hHcj hs
      obtain⟨z1,z2⟩:=OB.szs0 (o:=o2) (by rw[q3];exact hs)
      exact⟨j,_,rfl,q2,by rw[q1,hatm j _ hmj],by rw[z1,h0.1],by rw[z2,h0.2]⟩
    ·simp[hmj] at e1
     subst e1
     obtain⟨_,hq⟩:=hln j (by omega)
     obtain⟨q1,o2,q2,q3⟩:=hq _ hHcj (by rw[e3];exact fun h=>by cases h)
     obtain⟨z1,z2⟩:=OB.szs0 (o:=o2) (by rw[q3,e3];exact fun h=>by cases h)
     exact⟨j,_,rfl,q2,by rw[q1,hatm j _ hmj],by rw[z1];unfold szAt;rw[e2];rfl,by rw[z2];unfold capAt;rw[e2];rfl⟩
    ·simp[hmj] at e1
     subst e1
     cases hpi:pin with
     | false=>
      refine absurd ?_ hK
      show i∈lentK pin H m
      rw[hpi]
      exact List.mem_filter.2 ⟨List.mem_of_getElem? hmj,by rw[e2]⟩
     | true=>
      obtain⟨q1,q2,q3⟩:=hpn hpi j (by omega)
      have hjr:=(hml j i hmj).1
      refine⟨j,_,rfl,List.getElem?_eq_getElem hjr,by rw[q1,hatm j _ hmj], ?_, ?_⟩
      ·have e4:szAt Hr j=(Hr[j]).sz:=by unfold szAt;rw[List.getElem?_eq_getElem hjr]
       have e5:szAt (Hc g) j=szAt H i:=by unfold szAt;rw[hHcj,e3,e2] <;> rfl
       rw[←e4,q2,e5]
      ·have e4:capAt Hr j=(Hr[j]).cap:=by unfold capAt;rw[List.getElem?_eq_getElem hjr]
       have e5:capAt (Hc g) j=capAt H i:=by unfold capAt;rw[hHcj,e3,e2] <;> rfl
       rw[←e4,q3,e5]
    ·simp[hmj] at e1
    ·simp[hmj] at e1
     subst e1
     cases hpi:pin with
     | false=>
      refine absurd ?_ hK
      show i∈lentK pin H m
      rw[hpi]
      exact List.mem_filter.2 ⟨List.mem_of_getElem? hmj,by rw[e2]⟩
     | true=>
      obtain⟨q1,q2,q3⟩:=hpn hpi j (by omega)
      have hjr:=(hml j i hmj).1
      refine⟨j,_,rfl,List.getElem?_eq_getElem hjr,by rw[q1,hatm j _ hmj], ?_, ?_⟩
      ·have e4:szAt Hr j=(Hr[j]).sz:=by unfold szAt;rw[List.getElem?_eq_getElem hjr]
       have e5:szAt (Hc g) j=szAt H i:=by unfold szAt;rw[hHcj,e3,e2] <;> rfl
       rw[←e4,q2,e5]
      ·have e4:capAt Hr j=(Hr[j]).cap:=by unfold capAt;rw[List.getElem?_eq_getElem hjr]
       have e5:capAt (Hc g) j=capAt H i:=by unfold capAt;rw[hHcj,e3,e2] <;> rfl
       rw[←e4,q3,e5]
    ·simp[hmj] at e1
     subst e1
     cases hpi:pin with
     | false=>
      refine absurd ?_ hK
      show i∈lentK pin H m
      rw[hpi]
      exact List.mem_filter.2 ⟨List.mem_of_getElem? hmj,by rw[e2]⟩
     | true=>
      obtain⟨q1,q2,q3⟩:=hpn hpi j (by omega)
      have hjr:=(hml j i hmj).1
      refine⟨j,_,rfl,List.getElem?_eq_getElem hjr,by rw[q1,hatm j _ hmj], ?_, ?_⟩
      ·have e4:szAt Hr j=(Hr[j]).sz:=by unfold szAt;rw[List.getElem?_eq_getElem hjr]
       have e5:szAt (Hc g) j=szAt H i:=by unfold szAt;rw[hHcj,e3,e2] <;> rfl
       rw[←e4,q2,e5]
      ·have e4:capAt Hr j=(Hr[j]).cap:=by unfold capAt;rw[List.getElem?_eq_getElem hjr]
       have e5:capAt (Hc g) j=capAt H i:=by unfold capAt;rw[hHcj,e3,e2] <;> rfl
       rw[←e4,q3,e5]
  refine⟨fun i hi hK=>?_,fun i hi hK=>?_,fun i hi hK=>?_,by omega⟩
  ·rw[hat1 i hi]
   rcases hkey i hi hK with⟨j,o',e2,e4,e5,e6,e7⟩|e2
   ·rw[e2];exact e5
   ·rw[e2]
  ·rcases hkey i hi hK with⟨j,o',e2,e4,e5,e6,e7⟩|e2
   ·rw[←e6]
    unfold szAt
    rw[hHn1 i _ (List.getElem?_eq_getElem hi),e2]
    simp only[List.getD_eq_getElem?_getD,e4,Option.getD_some]
    first|exact(OB.emb_szs _ _ _).1|exact(OB.emb_szs _ _ _).2.1
   ·unfold szAt
    rw[hHn1 i _ (List.getElem?_eq_getElem hi),List.getElem?_eq_getElem hi,e2];simp[zR4]
  ·rcases hkey i hi hK with⟨j,o',e2,e4,e5,e6,e7⟩|e2
   ·rw[←e7]
    unfold capAt
    rw[hHn1 i _ (List.getElem?_eq_getElem hi),e2]
    simp only[List.getD_eq_getElem?_getD,e4,Option.getD_some]
    first|exact(OB.emb_szs _ _ _).1|exact(OB.emb_szs _ _ _).2.1
   ·unfold capAt
    rw[hHn1 i _ (List.getElem?_eq_getElem hi),List.getElem?_eq_getElem hi,e2];simp[zU3]
 have hsrc:∀i B,atB ρn i=some B→(i < H.length∧posOf i m=none∧atB ρ i=some B)∨∃j,atB ρ' j=some B∧embB m H.length j=i∧j < Hr.length:=fun i B hi=>by
  have hil:i < ρn.length:=zJ4 hi
  rcases Nat.lt_or_ge i H.length with h|h
  ·rw[hat1 i h] at hi
   cases hp:posOf i m with
   | none=>rw[hp] at hi;exact .inl ⟨h,rfl,hi⟩
   | some j=>
    rw[hp] at hi
    have hmj:=zt1 hp
    have hjl:=(List.getElem?_eq_some_iff.1 hmj).1
    refine .inr ⟨j,hi, ?_,by rw[←hRr.len];exact zJ4 hi⟩
    unfold embB
    rw[if_pos hjl]
    simp[hmj]
  ·have:=hat2 (i - H.length) (by omega)
   rw[show H.length+(i - H.length)=i from by omega,hi] at this
   refine .inr ⟨_,this.symm, ?_,by omega⟩
   unfold embB
   rw[if_neg (by omega)];omega
 have hfresh:∀j B,atB ρ' j=some B→(w.heap.size≤B∨∃i k,inP (Hc g) i k B)∨(j < m.length∧∃b∈m,atB ρ b=some B):=fun j B hj=>by
  rcases hρ' j B hj with h|⟨h,h'⟩
  ·exact .inl h
  ·exact .inr ⟨by omega,hlentB B ⟨j,h'⟩⟩
 have hpsrc:∀i k B,inP Hn i k B→(i < H.length∧posOf i m=none∧inP H i k B)∨∃j,inP Hr j k B∧embB m H.length j=i∧j < Hr.length:=fun i k B hi=>by
  obtain⟨o,h1,h2⟩:=hi
  have hil:i < Hn.length:=(List.getElem?_eq_some_iff.1 h1).1
  have hback:∀j,j < Hr.length→embB m H.length j=i→inP Hr j k B:=fun j hj he=>by
   obtain⟨e1,e2,e3⟩:=hemb j _ (List.getElem?_eq_getElem hj)
   rw[he,h1] at e2
   injection e2 with e2
   refine⟨_,List.getElem?_eq_getElem hj, ?_⟩
   rw[e2] at h2
   obtain⟨l,e,h3,h4⟩:=h2
   refine⟨l,e, ?_,h4⟩
   cases ho:Hr[j] <;> rw[ho] at h3 <;> first|exact h3|cases h3
  rcases Nat.lt_or_ge i H.length with h|h
  ·cases hp:posOf i m with
   | none=>
    have:=hHn1 i _ (List.getElem?_eq_getElem h)
    rw[hp,h1] at this
    injection this with this
    rw[this] at h2
    exact .inl ⟨h,rfl,_,List.getElem?_eq_getElem h,zL5 h2⟩
   | some j=>
    have hmj:=zt1 hp
    have hjl:=(List.getElem?_eq_some_iff.1 hmj).1
    have he:embB m H.length j=i:=by unfold embB;rw[if_pos hjl];simp[hmj]
    exact .inr ⟨j,hback j (hml j i hmj).1 he,he,(hml j i hmj).1⟩
  ·have he:embB m H.length (m.length+(i - H.length))=i:=by unfold embB;rw[if_neg (by omega)];omega
   exact .inr ⟨_,hback _ (by omega) he,he,by omega⟩
 have hnolent:∀i k B,i < H.length→posOf i m=none→inP H i k B→¬(w.heap.size≤B∨∃i k,inP (Hc g) i k B):=fun i k B h1 h2 h3 h4=>by
  rcases h4 with h4|h4
  ·have:=(hR.hp.pl.ps i k B h3).2.2;omega
  ·obtain⟨b,hb,k',h5⟩:=hlentP B h4
   have:=(hR.hp.pl.pd _ _ _ _ _ h3 h5).1
   subst this
   exact zI2 h2 hb
 have hlown:∀i B,atB ρ i=some B→¬(w.heap.size≤B∨∃i k,inP (Hc g) i k B):=fun i B h1 h4=>by
  rcases h4 with h4|h4
  ·have:=hR.hp.lt i B h1;omega
  ·obtain⟨b,hb,k',h5⟩:=hlentP B h4
   exact(hR.hp.pl.ps _ _ _ h5).2.1 i h1
 have hlS:∀B,S B→¬(w.heap.size≤B∨∃i k,inP (Hc g) i k B):=fun B h1 h4=>by
  rcases h4 with h4|h4
  ·have:=hR.hp.sS B h1;omega
  ·obtain⟨b,hb,k',h5⟩:=hlentP B h4
   exact(hR.hp.pl.ps _ _ _ h5).1 h1
 have hRn:RH w' Sn ρn Hn:=by
  refine⟨by omega,fun i i' B hi hi'=>?_,fun i B hi hS=>?_,fun i B hi=>?_,fun b hb=>?_,fun i ob hob=>?_,⟨fun i k i' k' B h1 h2=>?_,fun i k B h1=>?_⟩⟩
  rotate_right 2
  ·rcases hpsrc i k B h1 with⟨e1,e2,e3⟩|⟨j,e1,e2,e3⟩ <;> rcases hpsrc i' k' B h2 with⟨f1,f2,f3⟩|⟨j',f1,f2,f3⟩
   ·exact hR.hp.pl.pd _ _ _ _ _ e3 f3
   ·exact absurd (hpw _ _ _ f1) (hnolent _ _ _ e1 e2 e3)
   ·exact absurd (hpw _ _ _ e1) (hnolent _ _ _ f1 f2 f3)
   ·obtain⟨g1,g2⟩:=hRr.pl.pd _ _ _ _ _ e1 f1
    subst g1
    exact⟨e2.symm.trans f2,g2⟩
  ·rcases hpsrc i k B h1 with⟨e1,e2,e3⟩|⟨j,e1,e2,e3⟩
   ·obtain⟨g1,g2,g3⟩:=hR.hp.pl.ps _ _ _ e3
    refine⟨fun hb=>?_,fun q hq=>?_,Nat.lt_of_lt_of_le g3 hst.size⟩
    ·rcases hb with hb|⟨hb,_⟩
     ·exact g1 hb
     ·exact hnolent _ _ _ e1 e2 e3 hb
    ·rcases hsrc q B hq with⟨f1,f2,f3⟩|⟨j',f1,f2,f3⟩
     ·exact g2 _ f3
     ·rcases hfresh j' B f1 with h|⟨_,b,hb,h⟩
      ·exact hnolent _ _ _ e1 e2 e3 h
      ·exact g2 _ h
   ·obtain⟨g1,g2,g3⟩:=hRr.pl.ps _ _ _ e1
    refine⟨fun hb=>?_,fun q hq=>?_,g3⟩
    ·rcases hb with hb|⟨_,hb⟩
     ·exact hlS B hb (hpw _ _ _ e1)
     ·exact g1 hb
    ·rcases hsrc q B hq with⟨f1,f2,f3⟩|⟨j',f1,f2,f3⟩
     ·exact hlown _ _ f3 (hpw _ _ _ e1)
     ·exact g2 _ f1
  ·rcases hsrc i B hi with⟨e1,e2,e3⟩|⟨j,e1,e2,e3⟩ <;> rcases hsrc i' B hi' with⟨f1,f2,f3⟩|⟨j',f1,f2,f3⟩
   ·exact hR.hp.nd i i' B e3 f3
   ·rcases hfresh j' B f1 with h|⟨_,b,hb,h⟩
    ·exact absurd h (hlown i B e3)
    ·have:=hR.hp.nd i b B e3 h
     subst this
     exact absurd hb (zI2 e2)
   ·rcases hfresh j B e1 with h|⟨_,b,hb,h⟩
    ·exact absurd h (hlown i' B f3)
    ·have:=hR.hp.nd i' b B f3 h
     subst this
     exact absurd hb (zI2 f2)
   ·have:=hRr.nd j j' B e1 f1
    subst this
    rw[←e2,←f2]
  ·rcases hsrc i B hi with⟨e1,e2,e3⟩|⟨j,e1,e2,e3⟩
   ·rcases hS with hS|⟨hS,_⟩
    ·exact hR.hp.ap i B e3 hS
    ·exact hlown i B e3 hS
   ·rcases hS with hS|⟨_,hS⟩
    ·rcases hfresh j B e1 with h|⟨_,b,hb,h⟩
     ·exact hlS B hS h
     ·exact hR.hp.ap b B h hS
    ·exact hRr.ap j B e1 hS
  ·rcases hsrc i B hi with⟨e1,e2,e3⟩|⟨j,e1,e2,e3⟩
   ·exact Nat.lt_of_lt_of_le (hR.hp.lt i B e3) hst.size
   ·exact hRr.lt j B e1
  ·rcases hb with hb|⟨_,hb⟩
   ·exact Nat.lt_of_lt_of_le (hR.hp.sS b hb) hst.size
   ·exact hRr.sS b hb
  ·have hil:i < Hn.length:=(List.getElem?_eq_some_iff.1 hob).1
   have hback:∀j,j < Hr.length→embB m H.length j=i→OwnB w' Sn ρn Hn ob (atB ρn i):=fun j hj he=>by
    obtain⟨e1,e2,e3⟩:=hemb j _ (List.getElem?_eq_getElem hj)
    rw[he] at e1 e2
    rw[hob] at e2
    injection e2 with e2
    rw[e1,e2]
    exact hownS _ _ (hRr.blk j _ (List.getElem?_eq_getElem hj)) (hflo _ (List.getElem_mem hj))
   rcases Nat.lt_or_ge i H.length with h|h
   ·have hHi:=List.getElem?_eq_getElem h
    cases hp:posOf i m with
    | none=>
     have:=hHn1 i _ hHi
     rw[hp] at this
     rw[hob] at this
     injection this with this
     subst this
     rw[hat1 i h,hp]
     refine(hR.hp.blk i _ hHi).killed hexb hmo (fun B hB=>hst.block B (hR.hp.lt i B hB) (fun hx=>?_)) (fun k B hB=>hst.block B (hR.hp.pl.ps i k B ⟨_,hHi,hB⟩).2.2 (fun hx=>?_))
     ·rcases hx with hx|hx
      ·obtain⟨c,hc,hcB⟩:=hlentB B hx
       have:=hR.hp.nd i c B hB hcB
       subst this
       exact zI2 hp hc
      ·exact hlown i B hB (.inr hx)
     ·rcases hx with hx|hx
      ·obtain⟨c,hc,hcB⟩:=hlentB B hx
       exact(hR.hp.pl.ps i k B ⟨_,hHi,hB⟩).2.1 c hcB
      ·exact hnolent i k B h hp ⟨_,hHi,hB⟩ (.inr hx)
    | some j=>
     have hmj:=zt1 hp
     have hjl:=(List.getElem?_eq_some_iff.1 hmj).1
     refine hback j (hml j i hmj).1 ?_
     unfold embB
     rw[if_pos hjl]
     simp[hmj]
   ·refine hback (m.length+(i - H.length)) (by omega) ?_
    unfold embB
    rw[if_neg (by omega)];omega
 have hRfin:R N E Sn ρn (killF g K F) Hn a w':=by
  have hLPw:∀B,(w.heap.size≤B∨∃i k,inP (Hc g) i k B)→E.w0.heap.size≤B∨∃i k,inP E.H0 i k B:=fun B h=>by
   rcases h with h|h
   ·exact .inl (Nat.le_trans hR.st.size h)
   ·obtain⟨b,_,k,h'⟩:=hlentP B h
    exact hR.pw b k B h'
  refine⟨hR.df,hR.sz,fun i y hy=>?_,hRn, ?_,fun i B hi=>?_,fun b hb=>?_,fun i k B hi=>?_,fun i hi=>?_,fun hpp i hi=>?_⟩
  rotate_left 4
  ·rcases hpsrc i k B hi with⟨_,_,e3⟩|⟨j,e1,_,_⟩
   ·exact hR.pw _ _ _ e3
   ·exact hLPw B (hpw _ _ _ e1)
  rotate_right 4
  ·obtain⟨y',e1,rfl⟩:=zp2 hy
   obtain⟨e2,e3⟩:=hR.fr i y' e1
   obtain⟨e4,e5⟩:=e3.killed hexb hmo
   exact⟨by rw[e4];exact e2,e5⟩
  ·refine hR.st.trans hst (fun k hk hT=>?_)
   rcases hT with hT|hT
   ·obtain⟨c,hc,hcB⟩:=hlentB k hT
    rcases hR.nw c k hcB with(h|h)|h
    ·omega
    ·exact .inr h
    ·exact .inl ⟨_,h.2⟩
   ·rcases hLPw k (.inr hT) with h|h
    ·omega
    ·exact .inr h
  ·rcases hsrc i B hi with⟨e1,e2,e3⟩|⟨j,e1,e2,e3⟩
   ·exact hR.nw i B e3
   ·rcases hρ' j B e1 with h|⟨hj,h'⟩
    ·exact .inl (hLPw B h)
    ·have hjm:j < m.length:=by omega
     have hmj:m[j]?=some m[j]:=List.getElem?_eq_getElem hjm
     rw[hatm j _ hmj] at h'
     have hij:i=m[j]:=by
      rw[←e2];unfold embB;rw[if_pos hjm];simp[hjm]
     rw[hij]
     exact hR.nw _ B h'
  ·rcases hb with hb|⟨hb,_⟩
   ·exact hR.nS b hb
   ·exact .inr (hLPw b hb)
  ·obtain⟨e1,e2⟩:=hR.ln i hi
   refine⟨by omega,fun o ho hs=>?_⟩
   obtain⟨e3,o',e4,e5⟩:=e2 o ho hs
   have hs':o'.shp≠0:=by rw[e5];exact hs
   have hK:i∉K:=fun hk=>by
    have:=(List.mem_filter.1 (hKl i hk).1).2
    rw[e4] at this
    cases o' <;> first|exact hs' rfl|cases this
   refine⟨by rw[hexb.at_ i e1 hK];exact e3, ?_⟩
   rw[hHn1 i _ e4]
   cases hp:posOf i m with
   | none=>exact⟨_,rfl,by rw[zT3];exact e5⟩
   | some j=>
    have hmj:=zt1 hp
    have hjl:=(List.getElem?_eq_some_iff.1 hmj).1
    obtain⟨o2,q1,q2⟩:=hHg.shp (i:=j) (b:=i) (by simp[hmj]) e4 hs'
    obtain⟨_,hq⟩:=hln j (by omega)
    obtain⟨_,o3,r1,r2⟩:=hq o2 q1 (by rw[q2];exact hs')
    exact⟨_,rfl,by simp only[List.getD_eq_getElem?_getD,r1,Option.getD_some];rw[(OB.emb_szs _ _ _).2.2,r2,q2,e5]⟩
  ·have hiK:i∉K:=fun hk=>by
    rcases hpin with⟨q,q1,q2⟩|q1
    ·have:=Nat.le_of_ble_eq_true (List.all_eq_true.1 q2 i hk)
     omega
    ·rw[q1] at hpp;cases hpp
   have hil:=(hR.ln i hi).1
   obtain⟨q1,q2,q3⟩:=hR.pn hpp i hi
   exact⟨by rw[hexb.at_ i hil hiK];exact q1,by rw[hexb.sz i hil hiK];exact q2,by rw[hexb.cap i hil hiK];exact q3⟩
 refine⟨Sn,ρn,_,_,⟨g,u,Hr,hmlen,hQ,rfl,rfl⟩, ?_⟩
 rw[hd]
 have h3:=hRfin.put (d:=d) (x:=u.emb m H.length) hN (hwfS u hu hflu)
 rw[(hexn u hu).1] at h3
 exact h3
theorem zj9 (pin:Bool) {f:FuncId} {fx:Operand} {args:Array Operand} {tys:Array TypeId} {d:Nat} {vs all:List AV} {us:(AV→Value)→List AV} (m:List Nat) (Hc:(AV→Value)→List OB) {Qc:(AV→Value)→AV→List OB→Prop} (fz:Bool)
    (hc:∀g,ACallsX pin P f (us g) (Hc g) (Qc g)) (ho:o.op = .call { callee:=.value fx,args:=args,argTypes:=tys }) (hfx:Callee' F fx f vs all) (hd:o.dst=some d) (hN:d < N) (hf:okFn P f=true) (hargs:evL F args.toList=some vs)
    (hcv:∀g,CvL g (m.map some) H fz all (us g)) (hm:m.Nodup) (hH:∀g,CvH g (m.map some) H fz (m.map some) (Hc g)) (hfl:fz=true→∀g u Hr,Qc g u Hr→FlatA (Known F H) u∧∀o∈Hr,FlatO (Known F H) o) (hpin:(∃q,E.H0.length=q∧((lentK pin H m).all fun b=>Nat.ble q b)=true)∨E.pin=false) :
    Ef P N E o F H fun F' H'=>∃g u Hr,m.length≤Hr.length∧Qc g u Hr∧F'=(d,u.emb m H.length) :: killF g (lentK pin H m) F∧H'=updH g (lentK pin H m) m Hr H.length 0 H++(Hr.drop m.length).map (OB.emb m H.length):=
 zs11 XW.all (fun _ _ _ _ _=>trivial) pin m Hc fz (fun g S ρ w _=>hc g S ρ w) ho hfx hd hN hf hargs hcv hm hH hfl hpin
theorem zP1 {f:FuncId} {fx:Operand} {args:Array Operand} {tys:Array TypeId} {d:Nat} {vs all:List AV} {us:(AV→Value)→List AV} (m:List Nat) (Hc:(AV→Value)→List OB) {Qc:(AV→Value)→AV→List OB→Prop} (fz:Bool)
    (hc:∀g,ACalls P f (us g) (Hc g) (Qc g)) (ho:o.op = .call { callee:=.value fx,args:=args,argTypes:=tys }) (hfx:Callee' F fx f vs all) (hd:o.dst=some d) (hN:d < N) (hf:okFn P f=true) (hargs:evL F args.toList=some vs)
    (hcv:∀g,CvL g (m.map some) H fz all (us g)) (hm:m.Nodup) (hH:∀g,CvH g (m.map some) H fz (m.map some) (Hc g)) (hfl:fz=true→∀g u Hr,Qc g u Hr→FlatA (Known F H) u∧∀o∈Hr,FlatO (Known F H) o) (hpin:(∃q,E.H0.length=q∧((lentArr H m).all fun b=>Nat.ble q b)=true)∨E.pin=false:=by first|exact Or.inl ⟨_,by assumption,rfl⟩|exact Or.inr (by assumption)) :
    Ef P N E o F H fun F' H'=>∃g u Hr,m.length≤Hr.length∧Qc g u Hr∧F'=(d,u.emb m H.length) :: killF g (lentArr H m) F∧H'=updH g (lentArr H m) m Hr H.length 0 H++(Hr.drop m.length).map (OB.emb m H.length):=zj9 false m Hc fz hc ho hfx hd hN hf hargs hcv hm hH hfl hpin
theorem zX1 {f:FuncId} {fx:Operand} {args:Array Operand} {tys:Array TypeId} {d:Nat} {vs all:List AV} {us:(AV→Value)→List AV} (m:List Nat) (Hc:(AV→Value)→List OB) {Qc:(AV→Value)→AV→List OB→Prop} (fz:Bool)
    (hc:∀g,ACallsX true P f (us g) (Hc g) (Qc g)) (ho:o.op = .call { callee:=.value fx,args:=args,argTypes:=tys }) (hfx:Callee' F fx f vs all) (hd:o.dst=some d) (hN:d < N) (hf:okFn P f=true) (hargs:evL F args.toList=some vs)
    (hcv:∀g,CvL g (m.map some) H fz all (us g)) (hm:m.Nodup) (hH:∀g,CvH g (m.map some) H fz (m.map some) (Hc g)) (hfl:fz=true→∀g u Hr,Qc g u Hr→FlatA (Known F H) u∧∀o∈Hr,FlatO (Known F H) o)  :
    Ef P N E o F H fun F' H'=>∃g u Hr,m.length≤Hr.length∧Qc g u Hr∧F'=(d,u.emb m H.length) :: killF g ([]) F∧H'=updH g ([]) m Hr H.length 0 H++(Hr.drop m.length).map (OB.emb m H.length):=zj9 true m Hc fz hc ho hfx hd hN hf hargs hcv hm hH hfl (.inl ⟨_,rfl,rfl⟩)
end
end Go.Proofs.YtophoepbedlhjaaGreatDoor
