/- The logic over values: new arrays, append. -/
import Derived.Test.YtophoepbedlhjaaGreatDoorQad
import Derived.Laws.MakeOwn
set_option linter.unusedSimpArgs false
set_option linter.unusedVariables false
namespace Go.Proofs.YtophoepbedlhjaaGreatDoor
section
open Go Go.RowKit
section
variable {P:Program} {N:Nat} {E:Env} {F:Fm} {H:List OB} {o:Oper} {S:Nat→Prop} {ρ:List (Option Nat)} {a:Act} {w:World}
theorem zT9 {F':Fm} {H':List OB} {K:Fm→List OB→Prop} {d:Nat} {x:AV} (hd:o.dst=some d) (hN:d < N) (hK:K ((d,x) :: F') H')
    (h:∀S ρ a w,R N E S ρ F H a w→∃S' ρ' w',(execOp a.eval o).run P w = .ok (.value (x.den ρ' H')) w'∧R N E S' ρ' F' H' a w'∧WF w' S' ρ' H' x):Ef P N E o F H K:=fun S ρ a w hR=>by
 obtain⟨S',ρ',w',h1,h2,h3⟩:=h S ρ a w hR
 unfold effO
 rw[h1]
 exact⟨S',ρ',_,_,hK,by rw[hd];exact h2.put hN h3⟩
theorem zs4 (h:RH w S ρ H) (ob:OB):(AV.p H.length 0 0).den (ρ++[some w.heap.size]) (H++[ob]) = .pointer (some ⟨w.heap.size,0,none⟩):=by
 simp[AV.den,zr,h.len]
theorem zV4 {w':World} {S':Nat→Prop} (h:RH w S ρ H) (ob:OB):WF w' S' (ρ++[some w.heap.size]) (H++[ob]) (.p H.length 0 0):=
 .p (by simp) (by simp[zr,h.len])
theorem zA6 {t:TypeId} {d:Nat} {z:Value} {vs:List Value} (ho:o.op = .alloc t) (hd:o.dst=some d) (hN:d < N) (hz:(P.info? t).bind (·.zero)=some z) (hc:z.cells=vs.toArray) (h1:vs.all Value.oneCell'=true) :
    Ef P N E o F H fun F' H'=>F'=(d,.p H.length 0 0) :: F∧H'=H++[.box (vs.map fun v=>.c (cvOf v))]:=
 zT9 hd hN ⟨rfl,rfl⟩ fun S ρ a w hR=>by
  refine⟨S,ρ++[some w.heap.size],w.alloc (.cells z.cells t), ?_, ?_,zV4 hR.hp _⟩
  ·have hzr:(zeroValue t).run P w = .ok z w:=by
    unfold zeroValue typeInfo
    cases hi:P.info? t with
    | none=>rw[hi] at hz;cases hz
    | some i=>
     rw[hi] at hz
     simp only[Option.bind_some] at hz
     simp[hi,hz]
   rw[zs4 hR.hp]
   simp[execOp,ho,Instr.alloc,hzr,newVar,newRow]
  ·have:=hR.new (z.cells) t (.box (vs.map fun v=>.c (cvOf v))) (by
    have h2:=OwnB.box_new hR (vs.map fun v=>.c (cvOf v)) t (fun x hx=>by
     obtain⟨v,hv,rfl⟩:=List.mem_map.1 hx
     exact⟨.c (zO2 _ _ _),by rw[AV.den,zY1];exact List.all_eq_true.1 h1 v hv⟩)
    rw[hc]
    simpa [Function.comp_def,AV.den,zY1] using h2)
   exact this
def cellsOf:AV→List AV
 | .a l=>l
 | x=>[x]
def uncl:List AV→Option (List CV)
 | []=>some []
 | .c x :: l=>match uncl l with|some us=>some (x :: us)|none=>none
 | _=>none
theorem zc6:∀{l:List AV} {us:List CV},uncl l=some us→l=us.map .c
 | [],us,h=>by injection h with h;subst h;rfl
 | .c x :: l,us,h=>by
  unfold uncl at h
  cases h1:uncl l with
  | none=>rw[h1] at h;cases h
  | some us'=>rw[h1] at h;injection h with h;subst h;rw[zc6 h1];rfl
 | .p .. :: _,_,h=>by cases h
 | .o .. :: _,_,h=>by cases h
 | .q .. :: _,_,h=>by cases h
 | .a _ :: _,_,h=>by cases h
 | .t _ :: _,_,h=>by cases h
 | .f .. :: _,_,h=>by cases h
 | .mp _ :: _,_,h=>by cases h
def CV.one:CV→Bool
 | .s v=>v.oneCell'
 | .r _ _=>true
 | .p _ _=>true
 | .f _ _ _=>true
def AV.one:AV→Bool
 | .c x=>x.one
 | .a _=>false
 | .t _=>false
 | _=>true
theorem zk11 (fn:Fn) (a:Array Value):(fnV fn a).oneCell'=true:=by cases fn <;> rfl
theorem Good.one {x:CV} (h:Good w S x) (h1:x.one=true):x.den.oneCell'=true:=by
 cases h with
 | s v=>exact h1
 | nil=>rfl
 | r=>rfl
 | p=>rfl
 | f=>exact zk11 _ _
theorem WF.one {x:AV} (h:WF w S ρ H x) (h1:x.one=true):(x.den ρ H).oneCell'=true:=by
 cases h with
 | c h=>exact h.one h1
 | a=>cases h1
 | t=>cases h1
 | f=>rw[AV.den];exact zk11 _ _
 | _=>rfl
theorem za1 {v:AV} (hw:WF w S ρ H v) (h1:(cellsOf v).all AV.one=true):(v.den ρ H).cells=((cellsOf v).map (AV.den ρ H)).toArray∧∀x∈cellsOf v,WF w S ρ H x∧(x.den ρ H).oneCell'=true:=by
 have h1':∀x∈cellsOf v,x.one=true:=by simpa using h1
 cases v with
 | a l=>cases hw with
  | a g=>exact⟨by simp[AV.den,AV.denL_eq,Value.cells,cellsOf],fun x hx=>⟨g x hx,(g x hx).one (h1' x hx)⟩⟩
 | _=>
  have h2:=hw.one (h1' _ (List.mem_singleton.2 rfl))
  refine⟨?_,fun x hx=>by rw[List.mem_singleton.1 hx];exact⟨hw,h2⟩⟩
  simp only[cellsOf,List.map_cons,List.map_nil]
  revert h2
  generalize AV.den ρ H _=u
  intro this
  cases u <;> simp[Value.oneCell'] at this <;> rfl
theorem ef_box {t:TypeId} {d:Nat} {x:Operand} {v:AV} {l:List AV} (ho:o.op = .box t x) (hd:o.dst=some d) (hN:d < N) (hx:ev F x=some v) (hl:cellsOf v=l) (h1:l.all AV.one=true) :
    Ef P N E o F H fun F' H'=>F'=(d,.p H.length 0 0) :: F∧H'=H++[.box l]:=
 zT9 hd hN ⟨rfl,rfl⟩ fun S ρ a w hR=>by
  subst hl
  obtain⟨h2,h3⟩:=hR.ev hx
  have hcs:=za1 h3 h1
  refine⟨S,ρ++[some w.heap.size],w.alloc (.cells (v.den ρ H).cells t), ?_, ?_,zV4 hR.hp _⟩
  ·rw[zs4 hR.hp]
   simp[execOp,ho,h2,Instr.box,newVar,newRow]
  ·rw[hcs.1]
   exact hR.new _ t (.box (cellsOf v)) (OwnB.box_new hR (cellsOf v) t hcs.2)
def zp (w:World) (B:Nat) (ob:Obj):World:={ w with heap:=w.heap.setIfInBounds B ob }
theorem zI7 {B i:Nat} {t:TypeId} {cs:Array Value} {v:Value} (h:w.heap[B]?=some (.cells cs t (0,0))):w.setCell ⟨B,i,none⟩ v=zp w B (.cells (cs.setIfInBounds i v) t (0,0)):=by
 unfold World.setCell zp
 congr 1
 refine Array.ext_getElem? fun k=>?_
 rw[Array.getElem?_modify,Array.getElem?_setIfInBounds]
 by_cases hk:B=k
 ·subst hk
  have hlt:B < w.heap.size:=by
   rcases Nat.lt_or_ge B w.heap.size with h'|h'
   ·exact h'
   ·rw[Array.getElem?_eq_none h'] at h;cases h
  rw[h]
  simp[hlt]
 ·simp[hk]
theorem zJ1 {B:Nat} {ob ob':Obj} (h:w.heap[B]?=some ob'):(zp w B ob).heap[B]?=some ob:=by
 have hlt:B < w.heap.size:=by
  rcases Nat.lt_or_ge B w.heap.size with h'|h'
  ·exact h'
  ·rw[Array.getElem?_eq_none h'] at h;cases h
 simp[zp,Array.getElem?_setIfInBounds,hlt]
theorem zg1 {B k:Nat} {ob:Obj} (h:k≠B):(zp w B ob).heap[k]?=w.heap[k]?:=by
 simp[zp,Array.getElem?_setIfInBounds,Ne.symm h]
theorem zI9 {B:Nat} {ob ob':Obj}:zp (zp w B ob) B ob'=zp w B ob':=by simp[zp]
def setAll (cs:Array Value) (off:Nat):List Value→Array Value
 | []=>cs
 | v :: vs=>setAll (cs.setIfInBounds off v) (off+1) vs
theorem zk1 (off:Nat):∀(vs:List Value) (cs:Array Value) (off:Nat),(setAll cs off vs).size=cs.size
 | [],_,_=>rfl
 | v :: vs,cs,off=>by rw[setAll,zk1 off vs];simp
theorem zU:∀(vs:List Value) (cs:Array Value) (off k:Nat),off+vs.length≤cs.size→(setAll cs off vs)[k]?=if off≤k∧k < off+vs.length then vs[k - off]? else cs[k]?
 | [],cs,off,k,_=>by
  rw[setAll,if_neg]
  simp only[List.length_nil]
  omega
 | v :: vs,cs,off,k,h=>by
  rw[List.length_cons] at h
  rw[setAll,zU vs _ (off+1) k (by simp;omega),Array.getElem?_setIfInBounds]
  by_cases hk:k=off
  ·subst hk
   rw[if_neg (by omega),if_pos rfl,if_pos (by omega),if_pos (by simp)]
   simp
  ·by_cases h2:off+1≤k∧k < off+1+vs.length
   ·rw[if_pos h2,if_pos (by simp;omega),show k - off=(k - (off+1))+1 from by omega,List.getElem?_cons_succ]
   ·rw[if_neg h2,if_neg (Ne.symm hk),if_neg (by simp;omega)]
theorem zL {B off:Nat} {t:TypeId}:∀(vs:List Value) (i:Nat) (w:World) (cs:Array Value),w.heap[B]?=some (.cells cs t (0,0))→off+i+vs.length≤cs.size→(∀v∈vs,v.oneCell'=true) →
    (storeCells ⟨B,off,none⟩ vs i).run P w = .ok () (zp w B (.cells (setAll cs (off+i) vs) t (0,0)))
 | [],i,w,cs,h,_,_=>by
  simp only[storeCells,Sem.run_pure,setAll]
  have:w.heap.setIfInBounds B (.cells cs t (0,0))=w.heap:=by
   refine(Array.ext_getElem? fun k=>?_)
   rw[Array.getElem?_setIfInBounds]
   split
   ·rename_i hk;subst hk;rw[h];split
    ·rfl
    ·rename_i hlt;rw[Array.getElem?_eq_none (by omega)] at h;cases h
   ·rfl
  unfold zp
  rw[this]
 | v :: vs,i,w,cs,h,hl,h1=>by
  rw[List.length_cons] at hl
  have hadd:(⟨B,off,none⟩:Addr).add i=⟨B,off+i,none⟩:=by
   unfold Addr.add;split
   ·rename_i h;subst h;rfl
   ·rfl
  have hcell:w.cell? ⟨B,off+i,none⟩=some (cs[off+i]'(by omega)):=by
   unfold World.cell?;rw[h];simp
  have hfr:w.frozen? ⟨B,off+i,none⟩=false:=by
   unfold World.frozen?;rw[h];simp
  unfold storeCells
  rw[Sem.run_bind,run_store P w _ v _ (h1 v (by simp)),hadd,hcell,hfr]
  simp only[Bool.false_eq_true,if_false,Result.andThen_ok]
  rw[zI7 h,zL vs (i+1) _ _ (zJ1 h) (by simp;omega) (fun v hv=>h1 v (by simp[hv])),zI9]
  rfl
theorem za9 (h:RH w S ρ H) {b B:Nat} (hb:atB ρ b=some B) (ob:Obj):Mo w S (zp w B ob) S:=fun k hk=>⟨hk,zg1 (fun e=>h.ap b B hb (e▸hk))⟩
theorem Ex.set {b:Nat} {ob ob':OB} (hb:H[b]?=some ob) (h1:ob'.sz=ob.sz) (h2:ob'.cap=ob.cap) (h3:ob.shp≠0→ob'.shp=ob.shp):Ex ρ H ρ (H.set b ob'):=by
 have hlt:b < H.length:=(List.getElem?_eq_some_iff.1 hb).1
 refine⟨fun _ _=>rfl,fun k hk=>?_,fun k hk=>?_,by simp,fun k o hk hs=>?_⟩
 rotate_left 2
 ·rw[List.getElem?_set]
  by_cases h:b=k
  ·subst h
   rw[hb] at hk
   injection hk with hk
   subst hk
   exact⟨ob',by simp[hlt],h3 hs⟩
  ·exact⟨o,by rw[if_neg h];exact hk,rfl⟩
 ·unfold szAt
  rw[List.getElem?_set]
  by_cases h:b=k
  ·subst h;rw[if_pos rfl,if_pos hlt,hb];exact h1
  ·rw[if_neg h]
 ·unfold capAt
  rw[List.getElem?_set]
  by_cases h:b=k
  ·subst h;rw[if_pos rfl,if_pos hlt,hb];exact h2
  ·rw[if_neg h]
theorem R.set {b B:Nat} {ob ob':OB} {cob:Obj} (h:R N E S ρ F H a w) (hb:H[b]?=some ob) (hB:atB ρ b=some B) (h1:ob'.sz=ob.sz) (h2:ob'.cap=ob.cap) (hbx:ob.shp≠0→ob'.shp=ob.shp) (hs:(zp w B cob).heap.size=w.heap.size)
    (ho:OwnB (zp w B cob) S ρ (H.set b ob') ob' (some B)):R N E S ρ F (H.set b ob') a (zp w B cob):=by
 have he:=Ex.set (ρ:=ρ) hb h1 h2 hbx
 have hm:=za9 h.hp hB cob
 have hin:∀i k B',inP (H.set b ob') i k B'→inP H i k B':=fun i k B'=>zr6 fun k B'=>ho.nopool
 refine h.ex he hm ⟨by simpa using h.hp.len,h.hp.nd,h.hp.ap,fun i B' hi=>by rw[hs];exact h.hp.lt i B' hi,fun k hk=>by rw[hs];exact h.hp.sS k hk,fun i x hx=>?_,h.hp.pl.same hin (by rw[hs];exact Nat.le_refl _)⟩ ?_ h.nw h.nS (fun i k B' hi=>h.pw i k B' (hin i k B' hi))
 ·rw[List.getElem?_set] at hx
  split at hx
  ·rename_i hi
   subst hi
   rw[hB]
   split at hx
   ·injection hx with hx;subst hx;exact ho
   ·cases hx
  ·rename_i hi
   refine(h.hp.blk i x hx).ex he hm (fun B' hB'=>zg1 (fun e=>hi (by
   subst e
   exact h.hp.nd _ _ _ hB hB'))) (fun k B' hk=>zg1 (fun e=>(h.hp.pl.ps i k B' ⟨x,hx,hk⟩).2.1 b (e▸hB)))
 ·refine⟨h.st.os,h.st.tape,h.st.output,by rw[hs];exact h.st.size,fun k hk hW=>?_,h.st.drawn⟩
  have:k≠B:=fun e=>by
   subst e
   rcases h.nw b k hB with(h'|h')|h'
   ·omega
   ·exact hW (.inr h')
   ·exact hW (.inl ⟨_,h'.2⟩)
  rw[zg1 this]
  exact h.st.block k hk hW
theorem R.setp {p k B:Nat} {l:List PE} {row row':List CV} {cob:Obj} (h:R N E S ρ F H a w) (hp:H[p]?=some (.pool l)) (hk:l[k]?=some (.bx (.pointer (some ⟨B,0,none⟩)) row)) (hs:(zp w B cob).heap.size=w.heap.size)
    (ho:PEok (zp w B cob) S (.bx (.pointer (some ⟨B,0,none⟩)) row')):R N E S ρ F (H.set p (.pool (l.set k (.bx (.pointer (some ⟨B,0,none⟩)) row')))) a (zp w B cob):=by
 have hpl:p < H.length:=(List.getElem?_eq_some_iff.1 hp).1
 have hkl:k < l.length:=(List.getElem?_eq_some_iff.1 hk).1
 have hinP:inP H p k B:=⟨_,hp,l,_,rfl,hk,rfl⟩
 obtain⟨hnS,hnρ,hlt⟩:=h.hp.pl.ps _ _ _ hinP
 have he:Ex ρ H ρ (H.set p (.pool (l.set k (.bx (.pointer (some ⟨B,0,none⟩)) row')))):=Ex.set hp rfl rfl (fun _=>rfl)
 have hm:Mo w S (zp w B cob) S:=fun q hq=>⟨hq,zg1 (fun e=>hnS (e▸hq))⟩
 have hent:∀(j:Nat) (x:PE),(l.set k (.bx (.pointer (some ⟨B,0,none⟩)) row'))[j]?=some x→(j=k∧x = .bx (.pointer (some ⟨B,0,none⟩)) row')∨(j≠k∧l[j]?=some x):=fun j x hx=>by
  rw[List.getElem?_set] at hx
  split at hx
  ·rename_i hkj
   try rw[if_pos hkl] at hx
   injection hx with hx
   exact .inl ⟨hkj.symm,hx.symm⟩
  ·rename_i hkj
   exact .inr ⟨fun e=>hkj e.symm,hx⟩
 have hin:∀i j B',inP (H.set p (.pool (l.set k (.bx (.pointer (some ⟨B,0,none⟩)) row')))) i j B'→inP H i j B':=fun i j B' hi=>by
  obtain⟨o,h1,h2⟩:=hi
  rw[List.getElem?_set] at h1
  split at h1
  ·rename_i hpi
   subst hpi
   try rw[if_pos hpl] at h1
   injection h1 with h1
   subst h1
   obtain⟨l2,x,h3,h4,h5⟩:=h2
   injection h3 with h3
   subst h3
   rcases hent j x h4 with⟨rfl,rfl⟩|⟨_,h6⟩
   ·injection h5 with h5
    subst h5
    exact hinP
   ·exact⟨_,hp,l,x,rfl,h6,h5⟩
  ·exact⟨o,h1,h2⟩
 have hold:=h.hp.blk _ _ hp
 refine h.ex he hm ⟨by simpa using h.hp.len,h.hp.nd,h.hp.ap,fun i B' hi=>by rw[hs];exact h.hp.lt i B' hi,fun q hq=>by rw[hs];exact h.hp.sS q hq,fun i x hx=>?_,h.hp.pl.same hin (by rw[hs];exact Nat.le_refl _)⟩ ?_ h.nw h.nS (fun i j B' hi=>h.pw i j B' (hin i j B' hi))
 ·rw[List.getElem?_set] at hx
  split at hx
  ·rename_i hi
   subst hi
   try rw[if_pos hpl] at hx
   injection hx with hx
   subst hx
   refine⟨hold.1,fun e he2=>?_⟩
   obtain⟨j,hj⟩:=List.mem_iff_getElem?.1 he2
   rcases hent j e hj with⟨_,rfl⟩|⟨hjk,h6⟩
   ·exact ho
   ·refine(hold.2 e (List.mem_of_getElem? h6)).mono (fun u hu=>hu.mono hm) (fun B' hB'=>zg1 (fun e'=>hjk ?_))
    exact(h.hp.pl.pd _ _ _ _ _ ⟨_,hp,l,e,rfl,h6,e'▸hB'⟩ hinP).2
  ·rename_i hi
   refine(h.hp.blk i x hx).ex he hm (fun B' hB'=>zg1 (fun e=>hnρ i (e▸hB'))) (fun j B' hj=>zg1 (fun e=>hi ?_))
   exact(h.hp.pl.pd _ _ _ _ _ ⟨x,hx,e▸hj⟩ hinP).1.symm
 ·refine⟨h.st.os,h.st.tape,h.st.output,by rw[hs];exact h.st.size,fun q hq hW=>?_,h.st.drawn⟩
  have:q≠B:=fun e=>by
   subst e
   rcases h.pw p k q hinP with h'|h'
   ·omega
   ·exact hW (.inr h')
  rw[zg1 this]
  exact h.st.block q hq hW
theorem zm1 (B:Nat) (ob:Obj):(zp w B ob).heap.size=w.heap.size:=by simp[zp]
def putL {α:Type} (l:List α) (j:Nat) (xs:List α):List α:=l.take j++xs++l.drop (j+xs.length)
theorem zm6 {α:Type} {l:List α} {j:Nat} {xs:List α} (h:j+xs.length≤l.length):(putL l j xs).length=l.length:=by simp[putL];omega
theorem zU2 {α:Type} {l:List α} {j k:Nat} {xs:List α} (h:j+xs.length≤l.length):(putL l j xs)[k]?=if j≤k∧k < j+xs.length then xs[k - j]? else l[k]?:=by
 unfold putL
 by_cases h1:k < j
 ·rw[List.append_assoc,List.getElem?_append_left (by simp;omega),List.getElem?_take_of_lt h1,if_neg (by omega)]
 ·by_cases h2:k < j+xs.length
  ·rw[List.getElem?_append_left (by simp;omega),List.getElem?_append_right (by simp;omega),if_pos (by omega)]
   congr 1;simp;omega
  ·rw[List.getElem?_append_right (by simp;omega),List.getElem?_drop,if_neg (by omega)]
   congr 1;simp;omega
theorem zR3 {α:Type} {l:List α} {j:Nat} {xs:List α} {x:α} (h:x∈putL l j xs):x∈xs∨x∈l:=by
 unfold putL at h
 rcases List.mem_append.1 h with h|h
 ·rcases List.mem_append.1 h with h|h
  ·exact .inr (List.mem_of_mem_take h)
  ·exact .inl h
 ·exact .inr (List.mem_of_mem_drop h)
theorem zo11 {t:TypeId} {x y:Operand} {v:AV} {p k B j n:Nat} {l:List PE} {row us row':List CV} (ho:o.op = .store t x y) (hd:o.dst=none) (hx:ev F x=some (.c (.s (.pointer (some ⟨B,j,none⟩))))) (hp:H[p]?=some (.pool l)) (hk:l[k]?=some (.bx (.pointer (some ⟨B,0,none⟩)) row)) (hy:ev F y=some v) (ht:(P.info? t).map (·.size)=some n)
    (hu:cellsOf v=us.map .c) (hn:us.length=n) (hj:j+n≤row.length) (h1:us.all CV.one=true) (hl:putL row j us=row') :
    Ef P N E o F H fun F' H'=>F'=F∧H'=H.set p (.pool (l.set k (.bx (.pointer (some ⟨B,0,none⟩)) row'))):=fun S ρ a w hR=>by
 subst hl
 obtain⟨g1,_⟩:=hR.ev hx
 obtain⟨g3,g4⟩:=hR.ev hy
 simp only[AV.den,CV.den] at g1
 obtain⟨hc1,hc2⟩:=za1 g4 (by rw[hu,List.all_map];exact h1)
 obtain⟨_,hpe⟩:=hR.hp.blk _ _ hp
 obtain⟨B',tt,hv,hh,hb⟩:=hpe _ (List.mem_of_getElem? hk)
 obtain rfl:B=B':=by injection hv with hv;injection hv with hv;injection hv
 have hz:(sizeOf t).run P w = .ok n w:=by
  unfold sizeOf typeInfo
  cases hi:P.info? t with
  | none=>rw[hi] at ht;cases ht
  | some i=>rw[hi] at ht;simp at ht;simp[hi,ht]
 rw[hu,List.map_map] at hc1
 have hcu:∀u∈us,Good w S u∧u.den.oneCell'=true:=fun u hu'=>by
  obtain⟨q1,q2⟩:=hc2 (.c u) (by rw[hu];exact List.mem_map.2 ⟨u,hu',rfl⟩)
  refine⟨?_,q2⟩
  cases q1 with|c g=>exact g
 have hden:us.map (AV.den ρ H ∘ AV.c)=us.map CV.den:=rfl
 rw[hden] at hc1
 have hrun:=zL (P:=P) (off:=j) (us.map CV.den) 0 w _ hh (by simp;omega) (fun u hu'=>by
  obtain⟨x,hx,rfl⟩:=List.mem_map.1 hu'
  exact(hcu x hx).2)
 rw[Nat.add_zero] at hrun
 unfold effO
 have hex:(execOp a.eval o).run P w = .ok .skip (zp w B (.cells (setAll (row.map CV.den).toArray j (us.map CV.den)) tt (0,0))):=by
  simp only[execOp,ho,g1,g3,Instr.storeAt,Instr.sureAddr,storeVar,Sem.run_bind,Sem.run_pure,Result.andThen_ok,hz,hc1,List.size_toArray,List.length_map,hn,ne_eq,not_true_eq_false,if_false]
  rw[hrun]
  rfl
 rw[hex]
 refine⟨S,ρ,_,_,⟨rfl,rfl⟩, ?_⟩
 rw[hd]
 have hnS:=(hR.hp.pl.ps _ _ _ ⟨_,hp,l,_,rfl,hk,rfl⟩).1
 have hm:Mo w S (zp w B (.cells (setAll (row.map CV.den).toArray j (us.map CV.den)) tt (0,0))) S:=fun q hq=>⟨hq,zg1 (fun e=>hnS (e▸hq))⟩
 refine hR.setp hp hk (zm1 _ _) ⟨B,tt,rfl, ?_,fun u hu'=>?_⟩
 ·rw[zJ1 hh]
  congr 2
  refine Array.ext_getElem? fun q=>?_
  rw[zU _ _ _ _ (by simp;omega)]
  simp only[List.length_map,List.getElem?_map,List.getElem?_toArray]
  rw[zU2 (by omega)]
  split <;> rfl
 ·rcases zR3 hu' with hu'|hu'
  ·exact⟨(hcu u hu').1.mono hm,(hcu u hu').2⟩
  ·exact⟨(hb u hu').1.mono hm,(hb u hu').2⟩
theorem ef_store {t:TypeId} {x y:Operand} {v:AV} {b j n:Nat} {l l':List AV} (ho:o.op = .store t x y) (hd:o.dst=none) (hx:ev F x=some (.p b 0 j)) (hH:H[b]?=some (.box l)) (hy:ev F y=some v) (ht:(P.info? t).map (·.size)=some n) (hn:(cellsOf v).length=n)
    (hj:j+n≤l.length) (h1:(cellsOf v).all AV.one=true) (hl:putL l j (cellsOf v)=l') :
    Ef P N E o F H fun F' H'=>F'=F∧H'=H.set b (.box l'):=fun S ρ a w hR=>by
 subst hl
 obtain⟨g1,_⟩:=hR.ev hx
 obtain⟨g3,g4⟩:=hR.ev hy
 obtain⟨hc1,hc2⟩:=za1 g4 h1
 obtain⟨B,tt,hB,hh,hb⟩:=hR.hp.blk _ _ hH
 have hz:(sizeOf t).run P w = .ok n w:=by
  unfold sizeOf typeInfo
  cases hi:P.info? t with
  | none=>rw[hi] at ht;cases ht
  | some i=>rw[hi] at ht;simp at ht;simp[hi,ht]
 have hrun:=zL (P:=P) (off:=j) ((cellsOf v).map (AV.den ρ H)) 0 w _ hh (by simp;omega) (fun u hu=>by
  obtain⟨x,hx,rfl⟩:=List.mem_map.1 hu
  exact(hc2 x hx).2)
 rw[Nat.add_zero] at hrun
 unfold effO
 have hex:(execOp a.eval o).run P w = .ok .skip (zp w B (.cells (setAll (l.map (AV.den ρ H)).toArray j ((cellsOf v).map (AV.den ρ H))) tt (0,0))):=by
  simp only[execOp,ho,g1,g3,AV.den,hB,Option.map_some,Instr.storeAt,Instr.sureAddr,storeVar,Sem.run_bind,Sem.run_pure,Result.andThen_ok,hz,hc1,List.size_toArray,List.length_map,hn,ne_eq,not_true_eq_false,if_false,
   Nat.zero_mul,Nat.zero_add]
  rw[hrun]
  rfl
 rw[hex]
 refine⟨S,ρ,_,_,⟨rfl,rfl⟩, ?_⟩
 rw[hd]
 refine R.set (ob:=.box l) hR hH hB rfl rfl (fun _=>rfl) (zm1 _ _) ⟨B,tt,rfl, ?_,fun x hx=>?_⟩
 ·rw[zJ1 hh]
  have he:=Ex.set (ρ:=ρ) (ob':=.box (putL l j (cellsOf v))) hH rfl rfl (fun _=>rfl)
  congr 2
  refine Array.ext_getElem? fun k=>?_
  rw[zU _ _ _ _ (by simp;omega)]
  simp only[List.length_map,List.getElem?_map,List.getElem?_toArray]
  rw[zU2 (by omega)]
  have hden:∀x,x∈cellsOf v∨x∈l→x.den ρ (H.set b (.box (putL l j (cellsOf v))))=x.den ρ H:=fun x hx=>by
   rcases hx with hx|hx
   ·exact(hc2 x hx).1.den_ex he
   ·exact(hb x hx).1.den_ex he
  split
  ·cases hq:(cellsOf v)[k - j]? with
   | none=>rfl
   | some x=>simp only[Option.map_some];rw[hden x (.inl (List.mem_of_getElem? hq))]
  ·cases hq:l[k]? with
   | none=>rfl
   | some x=>simp only[Option.map_some];rw[hden x (.inr (List.mem_of_getElem? hq))]
 ·have he:=Ex.set (ρ:=ρ) (ob':=.box (putL l j (cellsOf v))) hH rfl rfl (fun _=>rfl)
  have hm:=za9 hR.hp hB (.cells (setAll (l.map (AV.den ρ H)).toArray j ((cellsOf v).map (AV.den ρ H))) tt (0,0))
  rcases zR3 hx with hx|hx
  ·exact⟨(hc2 x hx).1.ex he hm,by rw[(hc2 x hx).1.den_ex he];exact(hc2 x hx).2⟩
  ·exact⟨(hb x hx).1.ex he hm,by rw[(hb x hx).1.den_ex he];exact(hb x hx).2⟩
theorem zn11 {t:TypeId} {x y:Operand} {v:AV} {b k j n sz cap:Nat} {e:TypeId} {rows:List (List CV)} {row us row':List CV} (ho:o.op = .store t x y) (hd:o.dst=none) (hx:ev F x=some (.p b k j)) (hH:H[b]?=some (.arr e sz cap rows)) (hk:rows[k]?=some row) (hy:ev F y=some v)
    (hu:uncl (cellsOf v)=some us) (ht:(P.info? t).map (·.size)=some n) (hn:us.length=n) (hj:j+n≤row.length) (h1:us.all CV.one=true) (hl:putL row j us=row') :
    Ef P N E o F H fun F' H'=>F'=F∧H'=H.set b (.arr e sz cap (rows.set k row')):=fun S ρ a w hR=>by
 subst hl
 obtain⟨g1,_⟩:=hR.ev hx
 obtain⟨g3,g4⟩:=hR.ev hy
 replace hu:=zc6 hu
 obtain⟨hc1,hc2⟩:=za1 g4 (by rw[hu];simpa [AV.one] using h1)
 rw[hu] at hc1 hc2
 have hgood:∀u∈us,Good w S u∧u.den.oneCell'=true:=fun u hu'=>by
  have:=hc2 (.c u) (List.mem_map.2 ⟨u,hu',rfl⟩)
  cases this.1 with
  | c g=>exact⟨g,this.2⟩
 have hsz:szAt H b=sz:=by unfold szAt;rw[hH];rfl
 rcases hR.hp.blk _ _ hH with⟨_,_,rfl⟩|⟨B,cs,hB,hh,hcs,hmx,hrl,hrow,hcell⟩
 ·simp at hk
 have hkl:k < rows.length:=(List.getElem?_eq_some_iff.1 hk).1
 have hrl':row.length=sz:=(hrow row (List.mem_of_getElem? hk)).1
 have hz:(sizeOf t).run P w = .ok n w:=by
  unfold sizeOf typeInfo
  cases hi:P.info? t with
  | none=>rw[hi] at ht;cases ht
  | some i=>rw[hi] at ht;simp at ht;simp[hi,ht]
 have hfit:k*sz+j+n≤cs.size:=by
  have:(k+1)*sz≤cap*sz:=Nat.mul_le_mul_right sz (by omega)
  rw[Nat.add_mul] at this
  omega
 have hmap:(us.map AV.c).map (AV.den ρ H)=us.map CV.den:=by simp[Function.comp_def,AV.den]
 rw[hmap] at hc1
 have hrun:=zL (P:=P) (off:=k*sz+j) (us.map CV.den) 0 w _ hh (by simp;omega) (fun u hu=>by
  obtain⟨x,hx,rfl⟩:=List.mem_map.1 hu
  exact(hgood x hx).2)
 rw[Nat.add_zero] at hrun
 unfold effO
 have hex:(execOp a.eval o).run P w = .ok .skip (zp w B (.cells (setAll cs (k*sz+j) (us.map CV.den)) e (0,0))):=by
  simp only[execOp,ho,g1,g3,AV.den,hB,Option.map_some,hsz,Instr.storeAt,Instr.sureAddr,storeVar,Sem.run_bind,Sem.run_pure,Result.andThen_ok,hz,hc1,List.size_toArray,List.length_map,hn,ne_eq,not_true_eq_false,if_false]
  rw[hrun]
  rfl
 rw[hex]
 refine⟨S,ρ,_,_,⟨rfl,rfl⟩, ?_⟩
 rw[hd]
 have hm:=za9 hR.hp hB (.cells (setAll cs (k*sz+j) (us.map CV.den)) e (0,0))
 refine R.set (ob:=.arr e sz cap rows) hR hH hB rfl rfl (fun _=>rfl) (zm1 _ _) (.inr ⟨B,_,rfl,zJ1 hh,by rw[zk1 0];exact hcs,hmx,by simpa using hrl,fun r hr=>?_,fun k' j' r u hk' hj'=>?_⟩)
 ·rcases List.mem_or_eq_of_mem_set hr with hr|rfl
  ·exact⟨(hrow r hr).1,fun u hu=>⟨((hrow r hr).2 u hu).1.mono hm,((hrow r hr).2 u hu).2⟩⟩
  ·refine⟨by rw[zm6 (by omega)];exact hrl',fun u hu=>?_⟩
   rcases zR3 hu with hu|hu
   ·exact⟨(hgood u hu).1.mono hm,(hgood u hu).2⟩
   ·exact⟨((hrow row (List.mem_of_getElem? hk)).2 u hu).1.mono hm,((hrow row (List.mem_of_getElem? hk)).2 u hu).2⟩
 ·rw[zU _ _ _ _ (by simp;omega)]
  rw[List.getElem?_set] at hk'
  simp only[List.length_map,List.getElem?_map]
  split at hk'
  ·rename_i hkk
   subst hkk
   injection hk' with hk'
   subst hk'
   rw[zU2 (by omega)] at hj'
   by_cases hin:j≤j'∧j' < j+us.length
   ·rw[if_pos hin] at hj'
    rw[if_pos (by omega),show k*sz+j' - (k*sz+j)=j' - j from by omega,hj'];rfl
   ·rw[if_neg hin] at hj'
    rw[if_neg (by omega)]
    exact hcell k j' row u hk hj'
  ·rename_i hkk
   have hr':=hrow r (List.mem_of_getElem? hk')
   have hj'':j' < sz:=by rw[←hr'.1];exact(List.getElem?_eq_some_iff.1 hj').1
   rw[if_neg ?_]
   ·exact hcell k' j' r u hk' hj'
   ·rintro⟨q1,q2⟩
    rcases Nat.lt_or_gt_of_ne hkk with hlt|hlt
    ·have:(k+1)*sz≤k'*sz:=Nat.mul_le_mul_right sz hlt
     rw[Nat.add_mul] at this
     omega
    ·have:(k'+1)*sz≤k*sz:=Nat.mul_le_mul_right sz hlt
     rw[Nat.add_mul] at this
     omega
end
end
section
open Go Go.RowKit
section
variable {P:Program} {N:Nat} {E:Env} {F:Fm} {H:List OB} {o:Oper} {S:Nat→Prop} {ρ:List (Option Nat)} {a:Act} {w:World}
theorem zG4 (off:Nat):∀(l:List Value) (i:Nat) (cs:Array Value),(l.zipIdx i).foldl (fun cs (x:Value × Nat)=>cs.setIfInBounds (off+x.2) x.1) cs=setAll cs (off+i) l
 | [],_,_=>rfl
 | v :: l,i,cs=>by
  rw[List.zipIdx_cons,List.foldl_cons,zG4 off l (i+1),setAll,Nat.add_assoc]
theorem zs3 (vs:Array Value) (off:Nat) (cs:Array Value):vs.zipIdx.foldl (fun cs (x:Value × Nat)=>cs.setIfInBounds (off+x.2) x.1) cs=setAll cs off vs.toList:=by
 rw[←Array.foldl_toList,Array.toList_zipIdx,zG4 off _ 0 cs,Nat.add_zero]
inductive Parts (F:Fm):Nat→List (Nat × Operand)→List (List CV)→Prop where
 | nil (i:Nat):Parts F i [] []
 | cons {i:Nat} {x:Operand} {v:AV} {us:List CV} {ps:List (Nat × Operand)} {rows:List (List CV)} (h:ev F x=some v) (h1:uncl (cellsOf v)=some us) (h2:Parts F (i+1) ps rows):Parts F i ((i,x) :: ps) (us :: rows)
theorem zO5 {sz:Nat} (hR:R N E S ρ F H a w) {i:Nat} {ps:List (Nat × Operand)} {rows:List (List CV)} (h:Parts F i ps rows):∀(cs:Array Value),(i+rows.length)*sz≤cs.size→(∀row∈rows,row.length=sz∧∀u∈row,u.one=true) →
    (∃cs',Instr.fill (fun i=>some (i*sz,sz)) cs (ps.map fun x=>(x.1,a.eval x.2))=some cs'∧cs'.size=cs.size∧(∀k,k < i*sz→cs'[k]?=cs[k]?)∧∀(k j:Nat) (row:List CV) (u:CV),rows[k]?=some row→row[j]?=some u→cs'[(i+k)*sz+j]?=some u.den) ∧
     ∀row∈rows,∀u∈row,Good w S u∧u.den.oneCell'=true:=by
 induction h with
 | nil i=>exact fun cs _ _=>⟨⟨cs,rfl,rfl,fun _ _=>rfl,fun k j row u hk _=>by simp at hk⟩,fun _ h=>by cases h⟩
 | @cons i x v us ps rows hx hc hps ih=>
  intro cs hcs hrow
  obtain⟨g1,g2⟩:=hR.ev hx
  have hus:=hrow us (by simp)
  replace hc:=zc6 hc
  obtain⟨e1,e2⟩:=za1 g2 (by rw[hc];simpa [AV.one] using hus.2)
  rw[hc] at e1 e2
  have hmap:(us.map AV.c).map (AV.den ρ H)=us.map CV.den:=by simp[Function.comp_def,AV.den]
  rw[hmap] at e1
  rw[List.length_cons] at hcs
  have hfit:i*sz+sz≤cs.size:=by
   have:(i+1)*sz≤(i+(rows.length+1))*sz:=Nat.mul_le_mul_right sz (by omega)
   rw[Nat.add_mul] at this
   omega
  obtain⟨⟨cs',h1,h2,h3,h4⟩,h5⟩:=ih (setAll cs (i*sz) (us.map CV.den)) (by rw[zk1 0];rw[show i+1+rows.length=i+(rows.length+1) from by omega];exact hcs) (fun r hr=>hrow r (by simp[hr]))
  refine⟨⟨cs', ?_,by rw[h2,zk1 0],fun k hk=>?_,fun k j row u hk hj=>?_⟩,fun row hr u hu=>?_⟩
  ·simp only[List.map_cons,Instr.fill,g1,e1,List.size_toArray,List.length_map,hus.1,ne_eq,not_true_eq_false,decide_false,Bool.false_or]
   rw[if_neg (by simp;omega),zs3]
   exact h1
  ·rw[h3 k (by rw[Nat.add_mul];omega),zU _ _ _ _ (by simp;omega),if_neg (by omega)]
  ·cases k with
   | succ k=>
    have:=h4 k j row u (by simpa using hk) hj
    rw[show i+(k+1)=i+1+k from by omega]
    exact this
   | zero=>
    simp only[List.getElem?_cons_zero,Option.some.injEq] at hk
    subst hk
    have hjl:j < us.length:=(List.getElem?_eq_some_iff.1 hj).1
    rw[Nat.add_zero,h3 _ (by rw[Nat.add_mul];omega),zU _ _ _ _ (by simp;omega),if_pos (by simp;omega),show i*sz+j - i*sz=j from by omega,List.getElem?_map,hj]
    rfl
  ·rcases List.mem_cons.1 hr with rfl|hr
   ·have:=e2 (.c u) (List.mem_map.2 ⟨u,hu,rfl⟩)
    cases this.1 with
    | c g=>exact⟨g,this.2⟩
   ·exact h5 row hr u hu
theorem zt4 (h:RH w S ρ H) (ob:OB) (n c:Nat):(AV.o H.length 0 n c).den (ρ++[some w.heap.size]) (H++[ob]) = .slice (some ⟨w.heap.size,0,none⟩) n c:=by
 simp[AV.den,zr,h.len]
theorem zW4 {w':World} {S':Nat→Prop} (h:RH w S ρ H) {ob:OB} {n c:Nat} (h1:n≤c) (h2:c≤ob.cap):WF w' S' (ρ++[some w.heap.size]) (H++[ob]) (.o H.length 0 n c):=
 .o (by simp) h1 (by simp[capAt,h2]) (by simp[zr,h.len])
theorem zz6 {t e:TypeId} {sz n d:Nat} {ps:Array (Nat × Operand)} {rows:List (List CV)} {z:Value} (ho:o.op = .buildSlice t n ps) (hd:o.dst=some d) (hN:d < N) (ht:elemSz P t=some (e,sz)) (hp:Parts F 0 ps.toList rows) (hn:rows.length=n)
    (hz:(P.info? e).bind (·.zero)=some z) (hzs:z.cells.size=sz) (hr:rows.all (fun row=>row.length == sz && row.all CV.one)=true) (hle:n*sz≤16777216) (hnm:n≤16777216) :
    Ef P N E o F H fun F' H'=>F'=(d,.o H.length 0 n n) :: F∧H'=H++[.arr e sz n rows]:=
 zT9 hd hN ⟨rfl,rfl⟩ fun S ρ a w hR=>by
  obtain⟨hu,i,hi,hs⟩:=zq ht
  have hu':(underlying t).run P w = .ok (.slice e) w:=by unfold underlying;simp[hu]
  have hsz:(sizeOf e).run P w = .ok sz w:=by simp[sizeOf,typeInfo,hi,hs]
  have hzr:(zeroValue e).run P w = .ok z w:=by
   unfold zeroValue typeInfo
   rw[hi] at hz
   simp only[Option.bind_some] at hz
   simp[hi,hz]
  subst hn
  have hr:∀row∈rows,row.length=sz∧∀u∈row,u.one=true:=by simpa using hr
  obtain⟨⟨cs',h1,h2,_,h4⟩,h5⟩:=zO5 (sz:=sz) hR hp ((Array.range (rows.length*sz)).map ((if rows.length*sz=0 then #[] else z.cells)[· % (if rows.length*sz=0 then #[] else z.cells).size]!)) (by simp) hr
  have hcs:cs'.size=rows.length*sz:=by rw[h2];simp
  refine⟨S,ρ++[some w.heap.size],w.alloc (.cells cs' e), ?_, ?_,zW4 hR.hp (Nat.le_refl _) (Nat.le_refl _)⟩
  ·rw[zt4 hR.hp]
   have hpm:(ps.map fun x=>(x.1,a.eval x.2)).toList=ps.toList.map fun x=>(x.1,a.eval x.2):=by simp
   have hlim:¬(rows.length*sz > 2 ^ 24):=by omega
   have hlim0:¬((0:Nat) > 2 ^ 24):=by decide
   by_cases hz0:rows.length*sz=0
   ·simp only[hz0,if_true] at h1
    simp only[execOp,ho,Instr.buildSlice,Sem.run_bind,hu',Result.andThen_ok,hsz,hlim0,if_false,hz0,if_true,Sem.run_pure,hpm,h1,newRow,run_newObj,World.alloc_eq]
   ·simp only[hz0,if_false] at h1
    simp only[execOp,ho,Instr.buildSlice,Sem.run_bind,hu',Result.andThen_ok,hsz,hlim,if_false,hz0,hzr,Sem.run_pure,hpm,h1,newRow,run_newObj,World.alloc_eq]
  ·refine hR.new cs' e (.arr e sz rows.length rows) (.inr ⟨_,cs',rfl,zq2 _ _,hcs,by simp only[maxLen];omega,Nat.le_refl _,fun row hrow=>⟨(hr row hrow).1,fun u hu=>⟨(h5 row hrow u hu).1.mono (Mo.alloc hR.hp _),(h5 row hrow u hu).2⟩⟩,fun k j row u hk hj=>?_⟩)
   have:=h4 k j row u hk hj
   rw[Nat.zero_add] at this
   exact this
theorem ef_make {t e:TypeId} {sz d by_ l c:Nat} {x y:Operand} {kx ky:IntKind} {z:Value} {vs:List Value} (ho:o.op = .makeSlice t x y) (hd:o.dst=some d) (hN:d < N) (ht:P.underlying t=some (.slice e)) (hi:(P.info? e).map (fun i=>(i.zero,i.size,i.bytes))=some (some z,sz,by_))
    (hx:ev F x=some (.c (.s (.int kx l)))) (hy:ev F y=some (.c (.s (.int ky c)))) (hlc:l≤c) (hb:by_*c≤281474976710656) (hc:c≤281474976710656) (hvs:z.cells=vs.toArray) (hsz:vs.length=sz) (h1:vs.all Value.oneCell'=true) :
    Ef P N E o F H fun F' H'=>F'=(d,.o H.length 0 l c) :: F∧H'=H++[.arr e sz c (List.replicate c (vs.map cvOf))]:=
 zT9 hd hN ⟨rfl,rfl⟩ fun S ρ a w hR=>by
  obtain⟨i,hinf,hz,hs,hby⟩:∃i,P.info? e=some i∧i.zero=some z∧i.size=sz∧i.bytes=by_:=by
   cases hi':P.info? e with
   | none=>rw[hi'] at hi;cases hi
   | some i=>rw[hi'] at hi;simp at hi;exact⟨i,rfl,hi⟩
  have e1:=(hR.ev hx).1
  have e2:=(hR.ev hy).1
  simp only[AV.den,CV.den] at e1 e2
  have hrun:=run_make (P:=P) w t e i z ht hinf hz kx ky l c (by omega) (by omega) (by rw[hby,←Int.natCast_mul];omega) (by omega)
  refine⟨S,ρ++[some w.heap.size],w.alloc (.cells (madeCells z.cells (c*sz)) e), ?_, ?_,zW4 hR.hp hlc (Nat.le_refl _)⟩
  ·rw[zt4 hR.hp]
   simp only[execOp,ho,e1,e2,Sem.run_bind,hrun,Result.andThen_ok,Sem.run_pure,Int.toNat_natCast,hs]
  ·refine hR.new _ e (.arr e sz c (List.replicate c (vs.map cvOf))) (.inr ⟨_,_,rfl,zq2 _ _,size_madeCells _ _,by simp only[maxLen];omega,by simp,fun row hrow=>?_,fun k j row u hk hj=>?_⟩)
   ·have:=List.eq_of_mem_replicate hrow
    subst this
    refine⟨by simp[hsz],fun u hu=>?_⟩
    obtain⟨v,hv,rfl⟩:=List.mem_map.1 hu
    exact⟨zO2 _ _ _,by rw[zY1];exact List.all_eq_true.1 h1 v hv⟩
   ·rw[List.getElem?_replicate] at hk
    split at hk
    ·rename_i hkc
     injection hk with hk
     subst hk
     rw[List.getElem?_map] at hj
     cases hv:vs[j]? with
     | none=>rw[hv] at hj;cases hj
     | some v=>
      rw[hv] at hj
      simp only[Option.map_some,Option.some.injEq] at hj
      subst hj
      have hjl:j < sz:=by rw[←hsz];exact(List.getElem?_eq_some_iff.1 hv).1
      have hlt:k*sz+j < c*sz:=by
       have:(k+1)*sz≤c*sz:=Nat.mul_le_mul_right sz hkc
       rw[Nat.add_mul] at this
       omega
      have hzsz:z.cells.size=sz:=by rw[hvs];simpa using hsz
      rw[zY1]
      simp only[madeCells,Array.getElem?_map,Array.getElem?_range,hlt,if_true,Option.map_some]
      rw[hzsz,show (k*sz+j) % sz=j from by rw[Nat.add_comm,Nat.add_mul_mod_self_right,Nat.mod_eq_of_lt hjl]]
      congr 1
      have:z.cells[j]?=some v:=by rw[hvs];simpa using hv
      rw[getElem!_def,this]
    ·cases hk
end
end
end Go.Proofs.YtophoepbedlhjaaGreatDoor
