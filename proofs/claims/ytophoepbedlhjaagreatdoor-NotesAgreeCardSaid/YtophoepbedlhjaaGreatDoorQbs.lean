/- Closed calls: inside a fence: lists of operations, a loop's yield. Conditions: none. -/
import Derived.Test.YtophoepbedlhjaaGreatDoorQbr
import Derived.Scope
import Derived.LoopNIn
import Derived.TacticsIn
import Derived.RangeFuncLeaves
import Derived.RangeFuncCalls
set_option linter.unusedSimpArgs false
set_option linter.unusedVariables false
namespace Go.Proofs.YtophoepbedlhjaaGreatDoor
section
open Go Go.RowKit
set_option maxRecDepth 100000
abbrev XCf:=FuncId→List XV→XHp→Nat→Option (XV × XHp × Nat)
def XCallOk (P:Program) (f:FuncId) (args:List XV) (H:XHp) (u:XV) (H':XHp):Prop:=∀w0 ρ γ w,XH w0 ρ γ H w→XV.okL (H.has γ) args→Calls P f (XV.denL ρ γ args).toArray w fun e w'=>∃ρ' γ',e = .returned (u.den ρ' γ')∧XH w0 ρ' γ' H' w'∧u.ok (H'.has γ')∧Agr H ρ γ H' ρ' γ'
def XCfOk (P:Program) (call:XCf):Prop:=∀f args H k u H' k',call f args H k=some (u,H',k')→XCallOk P f args H u H'
abbrev XSt:=XFr × XHp × Nat
def xop (P:Program) (N:Nat) (call:XCf) (F:XFr) (H:XHp) (k:Nat) (o:Oper):Option XSt:=match xrd P F H o with
 | some v=>(match o.dst with
  | some d=>(match xput N F d v with
   | some F'=>some (F',H,k)
   | none=>none)
  | none=>none)
 | none=>(match o.op with
  | .store _ _ _=>(match xstore P F H o with
   | some H'=>some (F,H',k)
   | none=>none)
  | .mapUpdate _ _ _ _=>(match xstore P F H o with
   | some H'=>some (F,H',k)
   | none=>none)
  | .call ⟨.value fx,args,_⟩=>(match o.dst,xevn F fx,xevL F args.toList with
   | some d,some (.f fn caps),some vs=>bif okFn P fn then (match call fn (vs++caps) H k with
    | some (u,H',k')=>(match xput N F d u with
     | some F'=>some (F',H',k')
     | none=>none)
    | none=>none) else (match xplL (vs++caps) with
    | some us=>(match semPure P (callFunc fn us.toArray) with
     | some (.value v)=>(match xput N F d (xnorm v) with
      | some F'=>some (F',H,k)
      | none=>none)
     | _=>none)
    | none=>none)
   | _,_,_=>none)
  | .call ⟨.builtin _,_,_⟩=>(match xappend P N F H k o with
   | some (F',H')=>some (F',H',k+1)
   | none=>none)
  | .range _ _=>(match xiter P N F H k o with
   | some (F',H')=>some (F',H',k+1)
   | none=>none)
  | .next _ _=>(match xiter P N F H k o with
   | some (F',H')=>some (F',H',k+1)
   | none=>none)
  | _=>(match xalloc P N F H k o with
   | some (F',H')=>some (F',H',k+1)
   | none=>none))
def xguard (ops:List Oper) (F:XFr) (o:Oper):Option Bool:=match o.guard with
 | none=>some true
 | some (i,want)=>match ops[i]? with
  | some oi=>(match oi.dst with
   | some t=>(match F.get t with
    | some (.v (.bool b))=>some (b == want)
    | some (.v (.tuple _))=>some false
    | _=>none)
   | none=>none)
  | none=>none
def xskip (N:Nat) (F:XFr) (o:Oper):Option XFr:=match o.dst with
 | some d=>xput N F d (.v undef)
 | none=>some F
section
variable {P:Program} {N:Nat} {w0:XEnv} {ρ γ:Nat→Nat} {F F':XFr} {H H':XHp} {a:Act} {w:World} {o:Oper} {call:XCf} {ops l:List Oper}
theorem zp14 (hc:XCfOk P call) {k k':Nat} (h:xop P N call F H k o=some (F',H',k')):XE P N o F H F' H':=by
 unfold xop at h
 split at h
 ·rename_i v hv
  split at h
  ·rename_i d hd
   split at h
   ·rename_i F1 hF
    simp only[Option.some.injEq,Prod.mk.injEq] at h
    obtain⟨rfl,rfl,rfl⟩:=h
    intro w0 ρ γ a w hR
    obtain⟨h1,h2⟩:=zy11 hv hR
    unfold effO
    rw[h1]
    refine⟨ρ,γ, ?_,Agr.refl _ _ _⟩
    rw[hd]
    exact hR.put hF h2
   ·cases h
  ·cases h
 ·split at h
  ·split at h
   ·rename_i H1 hs
    simp only[Option.some.injEq,Prod.mk.injEq] at h
    obtain⟨rfl,rfl,rfl⟩:=h
    exact zD7 hs
   ·cases h
  ·split at h
   ·rename_i H1 hs
    simp only[Option.some.injEq,Prod.mk.injEq] at h
    obtain⟨rfl,rfl,rfl⟩:=h
    exact zD7 hs
   ·cases h
  ·rename_i fx args tys ho
   split at h
   ·rename_i d fn caps vs hd hfx hargs
    have happ:∀(ρ γ:Nat→Nat) (l l':List XV),XV.denL ρ γ (l++l')=XV.denL ρ γ l++XV.denL ρ γ l':=fun ρ γ l l'=>by simp[XV.denL_eq]
    have hgo:∀{w0:XEnv} {ρ γ:Nat→Nat} {a:Act} {w:World} {r:Result Next},XR N w0 ρ γ F H a w→(callFunc fn (XV.denL ρ γ (vs++caps)).toArray).run P w=r→(execOp a.eval o).run P w=r:=fun {w0 ρ γ a w r} hR hr=>by
     obtain⟨f1,f2⟩:=hR.evn hfx
     obtain⟨a1,a2⟩:=hR.evL hargs
     unfold execOp
     simp only[ho,resolve,f1,XV.den,Deferred.ofValue,Sem.run_bind,Sem.run_pure,Result.andThen_ok,invoke]
     rw[←hr]
     congr 2
     apply Array.toList_inj.1
     have:(args.map a.eval).toList=XV.denL ρ γ vs:=by rw[←a1];simp
     simp only[Array.toList_append,this,Array.empty_append,happ]
    cases hok:okFn P fn with
    | false=>
     rw[hok] at h
     simp only[cond_false] at h
     split at h
     ·rename_i us hus
      split at h
      ·rename_i v hv
       split at h
       ·rename_i F1 hF
        simp only[Option.some.injEq,Prod.mk.injEq] at h
        obtain⟨rfl,rfl,rfl⟩:=h
        intro w0 ρ γ a w hR
        have hrun:=zM w hv
        rw[←zD6 ρ γ hus] at hrun
        unfold effO
        rw[hgo hR hrun]
        refine⟨ρ,γ, ?_,Agr.refl _ _ _⟩
        rw[hd]
        have:=hR.put hF (zq2 _ v)
        rw[zP1] at this
        exact this
       ·cases h
      ·cases h
     ·cases h
    | true=>
     rw[hok] at h
     simp only[cond_true] at h
     split at h
     ·rename_i u H1 k1 hcall
      split at h
      ·rename_i F1 hF
       simp only[Option.some.injEq,Prod.mk.injEq] at h
       obtain⟨rfl,rfl,rfl⟩:=h
       intro w0 ρ γ a w hR
       obtain⟨f1,f2⟩:=hR.evn hfx
       obtain⟨a1,a2⟩:=hR.evL hargs
       have hex:=hgo hR (zU1 (w:=w) hok)
       unfold effO
       rw[hex]
       refine(hc _ _ _ _ _ _ _ hcall w0 ρ γ w hR.hp ?_).mono ?_
       ·rw[XV.okL_iff]
        rw[XV.okL_iff] at a2
        intro x hx
        rcases List.mem_append.1 hx with hx|hx
        ·exact a2 x hx
        ·rw[XV.ok,XV.okL_iff] at f2;exact f2 x hx
       ·rintro e w' ⟨ρ',γ',rfl,h1,h2,h3⟩
        refine⟨_,rfl,ρ',γ', ?_,h3⟩
        rw[hd]
        exact(hR.agr h3 h1).put hF h2
      ·cases h
     ·cases h
   ·cases h
  ·split at h
   ·rename_i F1 H1 hs
    simp only[Option.some.injEq,Prod.mk.injEq] at h
    obtain⟨rfl,rfl,rfl⟩:=h
    exact zJ10 hs
   ·cases h
  ·split at h
   ·rename_i F1 H1 hs
    simp only[Option.some.injEq,Prod.mk.injEq] at h
    obtain⟨rfl,rfl,rfl⟩:=h
    exact zC9 hs
   ·cases h
  ·split at h
   ·rename_i F1 H1 hs
    simp only[Option.some.injEq,Prod.mk.injEq] at h
    obtain⟨rfl,rfl,rfl⟩:=h
    exact zC9 hs
   ·cases h
  ·split at h
   ·rename_i F1 H1 hs
    simp only[Option.some.injEq,Prod.mk.injEq] at h
    obtain⟨rfl,rfl,rfl⟩:=h
    exact zB11 hs
   ·cases h
theorem zQ1 {b:Bool} (h:xguard ops F o=some b) (hR:XR N w0 ρ γ F H a w):Region.wanted o (yielded ops.toArray a.tmps)=b:=by
 unfold xguard at h
 split at h
 ·rename_i hg
  injection h with h
  subst h
  simp[Region.wanted,hg]
 ·rename_i i want hg
  split at h
  ·rename_i oi hi
   split at h
   ·rename_i t ht
    split at h
    ·rename_i b' hb
     injection h with h
     subst h
     have:=(hR.fr t _ hb).1
     have hy:yielded ops.toArray a.tmps i=some b':=by
      unfold yielded
      simp only[List.getElem?_toArray,hi,Option.bind_some,ht,this,XV.den]
     simp[Region.wanted,hg,hy]
    ·rename_i q hb
     injection h with h
     subst h
     have:=(hR.fr t _ hb).1
     have hy:yielded ops.toArray a.tmps i=none:=by
      unfold yielded
      simp only[List.getElem?_toArray,hi,Option.bind_some,ht,this,XV.den]
     simp[Region.wanted,hg,hy]
    ·cases h
   ·cases h
  ·cases h
theorem zR4 (h:xskip N F o=some F') (hR:XR N w0 ρ γ F H a w):XR N w0 ρ γ F' H (a.put o.dst undef) w:=by
 unfold xskip at h
 split at h
 ·rename_i d hd
  rw[hd]
  exact hR.put (x:=.v undef) h trivial
 ·rename_i hd
  injection h with h
  subst h
  rw[hd]
  exact hR
end
end
section
open Go Go.RowKit
set_option maxRecDepth 100000
def isEff:Op→Bool
 | .alloc _=>true
 | .box _ _=>true
 | .buildSlice _ _ _=>true
 | .makeSlice _ _ _=>true
 | .makeMap _ _=>true
 | .store _ _ _=>true
 | .mapUpdate _ _ _ _=>true
 | .range _ _=>true
 | .next _ _=>true
 | .call ⟨.builtin b,_,_⟩=>(match b with
  | .len=>false
  | .cap=>false
  | .min=>false
  | .max=>false
  | _=>true)
 | .call _=>true
 | _=>false
def plansOf (E:List Bool) (B:List Nat):Nat→List Nat→List Nat→List Plan
 | 0,_,_=>[]
 | _+1,_,[]=>[[]]
 | n+1,done,x :: left=>
  let rdy:=(x :: left).filter fun i=>(x :: left).all fun j=>!(B.getD i 0).testBit j
  match rdy.find? fun i=>!(E.getD i true) with
  | some r=>(plansOf E B n (r :: done) ((x :: left).erase r)).map ((r,none) :: ·)
  | none=>rdy.flatMap fun e=>(plansOf E B n (e :: done) ((x :: left).erase e)).map ((e,some (done.filter fun j=>!(E.getD j true) && !(B.getD e 0).testBit j)) :: ·)
def plansR (ops:Array Oper):List Plan:=plansOf (ops.toList.map fun o=>isEff o.op) (Region.before ops).toList (ops.toList.length+1) [] (List.range ops.toList.length)
def planOk (ops:Array Oper):Bool:=okPlans ops (plansR ops) && (plansR ops).all (fun L=>Nat.beq L.length ops.toList.length)
def xagain (P:Program) (ops:List Oper) (F:XFr) (H:XHp) (j:Nat):Bool:=match ops[j]? with
 | none=>true
 | some o=>(match xguard ops F o,o.dst with
  | some true,some d=>(match xrd P F H o,F.get d with
   | some v,some u=>v.same u
   | _,_=>false)
  | some false,some d=>(match F.get d with
   | some u=>(XV.v undef).same u
   | none=>false)
  | _,_=>false)
def xplan (P:Program) (N:Nat) (call:XCf) (ops:List Oper) (st:Option (List (Nat × Nat))):Plan→XFr→XHp→Nat→List (Nat × Nat)→Option (XSt × List (Nat × Nat))
 | [],F,H,k,acc=>some ((F,H,k),acc)
 | (i,none) :: L,F,H,k,acc=>(match ops[i]? with
  | some o=>(match xguard ops F o with
   | some true=>(match xrd P F H o,o.dst with
    | some v,some d=>(match xput N F d v with
     | some F'=>xplan P N call ops st L F' H k acc
     | none=>none)
    | _,_=>none)
   | some false=>(match xskip N F o with
    | some F'=>xplan P N call ops st L F' H k acc
    | none=>none)
   | none=>none)
  | none=>none)
 | (i,some U) :: L,F,H,k,acc=>(match ops[i]? with
  | some o=>(match xguard ops F o with
   | some true=>(match xop P N call F H (match st with
       | none=>k
       | some l=>(l.lookup i).getD k) o with
    | some (F',H',k')=>bif U.all (xagain P ops F' H') then xplan P N call ops st L F' H' k' ((i,k) :: acc) else none
    | none=>none)
   | some false=>(match xskip N F o with
    | some F'=>bif U.all (xagain P ops F' H) then xplan P N call ops st L F' H k acc else none
    | none=>none)
   | none=>none)
  | none=>none)
def xruns (P:Program) (N:Nat) (call:XCf) (ops:List Oper) (ps:List Plan) (acc:List (Nat × Nat)) (F:XFr) (H:XHp) (k:Nat) (F':XFr) (H':XHp):Bool:=ps.all fun L=>match xplan P N call ops (some acc) L F H k [] with
 | some ((F2,H2,_),_)=>XT.same XV.same F2 F' && XT.same XB.same H2 H'
 | none=>false
def xdraw (P:Program) (N:Nat) (call:XCf) (ops:Array Oper) (F:XFr) (H:XHp) (k:Nat):Option XSt:=bif planOk ops then (match plansR ops with
 | []=>none
 | [L]=>(match xplan P N call ops.toList none L F H k [] with
  | some (s,_)=>some s
  | none=>none)
 | L :: ps=>(match xplan P N call ops.toList none L F H k [] with
  | some ((F',H',k'),acc)=>bif xruns P N call ops.toList (L :: ps) acc F H k F' H' then some (F',H',k') else none
  | none=>none)) else none
section
variable {P:Program} {N:Nat} {w0:XEnv} {ρ γ:Nat→Nat} {F F':XFr} {H H':XHp} {a:Act} {w:World} {o:Oper} {call:XCf} {ops:List Oper}
theorem zW9 {d:Nat} {x:XV} (hR:XR N w0 ρ γ F H a w) (h:F.get d=some x):a.put (some d) (x.den ρ γ)=a:=by
 have hf:=(hR.fr d x h).1
 obtain⟨tm,df⟩:=a
 simp only[Act.put,Act.mk.injEq,and_true]
 refine Array.ext_getElem? fun k=>?_
 rw[Array.getElem?_setIfInBounds]
 split
 ·rename_i hk;subst hk;rw[hf];split
  ·rfl
  ·rename_i hlt;rw[Array.getElem?_eq_none (by simpa using hlt)] at hf;cases hf
 ·rfl
theorem zI7 {j:Nat} (h:xagain P ops F H j=true) (hR:XR N w0 ρ γ F H a w):again P ops.toArray j a w:=by
 unfold xagain at h
 unfold again stOp
 rw[List.getElem?_toArray]
 cases ho:ops[j]? with
 | none=>rfl
 | some o=>
  simp only[ho] at h
  simp only
  split at h
  ·rename_i d hg hd
   split at h
   ·rename_i v u hv hu
    obtain rfl:=XV.same_eq _ _ h
    rw[if_pos (zQ1 hg hR)]
    unfold Oper.still
    rw[(zy11 hv hR).1]
    refine⟨rfl, ?_⟩
    rw[hd]
    exact zW9 hR hu
   ·cases h
  ·rename_i d hg hd
   split at h
   ·rename_i u hu
    obtain rfl:=XV.same_eq _ _ h
    rw[if_neg (by rw[zQ1 hg hR];simp),hd]
    exact zW9 (x:=.v undef) hR hu
   ·cases h
  ·cases h
theorem zW2 (hc:XCfOk P call) {st:Option (List (Nat × Nat))} {Q:Act→World→Prop}:∀(n:Nat) {ps:List Plan} {F:XFr} {H:XHp} {k:Nat} {acc:List (Nat × Nat)} {ρ γ:Nat→Nat} {a:Act} {w:World},ps≠[]→(∀L∈ps,L.length=n∧∃k2 acc2,xplan P N call ops st L F H k acc=some ((F',H',k2),acc2))→XR N w0 ρ γ F H a w→(∀a' w',XPost N w0 ρ γ H F' H' a' w'→Q a' w')→wpM P ops.toArray Q n ps a w
 | 0,ps,F,H,k,acc,ρ,γ,a,w,hne,hps,hR,hQ=>by
  cases ps with
  | nil=>exact absurd rfl hne
  | cons L ps=>
   obtain⟨h1,k2,acc2,h2⟩:=hps L (by simp)
   cases L with
   | nil=>
    simp only[xplan,Option.some.injEq,Prod.mk.injEq] at h2
    obtain⟨⟨rfl,rfl,_⟩,_⟩:=h2
    exact hQ _ _ ⟨ρ,γ,hR,Agr.refl _ _ _⟩
   | cons e L=>simp at h1
 | n+1,ps,F,H,k,acc,ρ,γ,a,w,hne,hps,hR,hQ=>by
  intro e he
  obtain⟨l0,hl0⟩:=zb1 he
  have hne':tailsOf e ps≠[]:=List.ne_nil_of_mem (zj1 hl0)
  have hall:∀l∈tailsOf e ps,l.length=n∧∃k2 acc2,xplan P N call ops st (e :: l) F H k acc=some ((F',H',k2),acc2):=fun l hl=>by
   obtain⟨h1,h2⟩:=hps _ (zT hl)
   exact⟨by simpa using h1,h2⟩
  obtain⟨_,k0,acc0,hx⟩:=hall l0 (zj1 hl0)
  obtain⟨i,q⟩:=e
  cases q with
  | none=>
   simp only[stepM]
   unfold stOp
   rw[List.getElem?_toArray]
   cases ho:ops[i]? with
   | none=>simp only[xplan,ho] at hx;cases hx
   | some o=>
    simp only[xplan,ho] at hx hall ⊢
    cases hg:xguard ops F o with
    | none=>rw[hg] at hx;cases hx
    | some b=>
     simp only[hg] at hx hall
     cases b with
     | true=>
      rw[if_pos (zQ1 hg hR)]
      simp only at hx hall
      cases hv:xrd P F H o with
      | none=>simp only[hv] at hx;cases hx
      | some v=>
       simp only[hv] at hx hall
       cases hd:o.dst with
       | none=>simp only[hd] at hx;cases hx
       | some d=>
        simp only[hd] at hx hall
        cases hF:xput N F d v with
        | none=>simp only[hF] at hx;cases hx
        | some F1=>
         simp only[hF] at hx hall
         obtain⟨r1,r2⟩:=zy11 hv hR
         unfold Oper.still
         rw[r1]
         refine⟨rfl, ?_⟩
         rw[hd]
         exact zW2 hc n hne' hall (hR.put hF r2) hQ
     | false=>
      rw[if_neg (by rw[zQ1 hg hR];simp)]
      simp only at hx hall
      cases hF:xskip N F o with
      | none=>simp only[hF] at hx;cases hx
      | some F1=>
       simp only[hF] at hx hall
       exact zW2 hc n hne' hall (zR4 hF hR) hQ
  | some U=>
   simp only[stepM]
   unfold effOp
   rw[List.getElem?_toArray]
   cases ho:ops[i]? with
   | none=>simp only[xplan,ho] at hx;cases hx
   | some o=>
    simp only[xplan,ho] at hx hall ⊢
    cases hg:xguard ops F o with
    | none=>rw[hg] at hx;cases hx
    | some b=>
     simp only[hg] at hx hall
     cases b with
     | true=>
      rw[if_pos (zQ1 hg hR)]
      simp only at hx hall
      generalize (match st with
       | none=>k
       | some l=>(l.lookup i).getD k)=ks at hx hall
      cases hop:xop P N call F H ks o with
      | none=>simp only[hop] at hx;cases hx
      | some s=>
       obtain⟨F1,H1,k1⟩:=s
       simp only[hop] at hx hall
       cases hU:U.all (xagain P ops F1 H1) with
       | false=>simp only[hU,cond_false] at hx;cases hx
       | true=>
        simp only[hU,cond_true] at hx hall
        refine zZ (fun a' w' hh=>?_) (zp14 hc hop w0 ρ γ a w hR)
        obtain⟨ρ1,γ1,h1,h2⟩:=hh
        refine⟨fun j hj=>zI7 (List.all_eq_true.1 hU j hj) h1, ?_⟩
        exact zW2 hc n hne' hall h1 fun a2 w2 ⟨ρ2,γ2,h3,h4⟩=>hQ _ _ ⟨ρ2,γ2,h3,h2.trans h4⟩
     | false=>
      rw[if_neg (by rw[zQ1 hg hR];simp)]
      simp only at hx hall
      cases hF:xskip N F o with
      | none=>simp only[hF] at hx;cases hx
      | some F1=>
       simp only[hF] at hx hall
       cases hU:U.all (xagain P ops F1 H) with
       | false=>simp only[hU,cond_false] at hx;cases hx
       | true=>
        simp only[hU,cond_true] at hx hall
        exact⟨fun j hj=>zI7 (List.all_eq_true.1 hU j hj) (zR4 hF hR),zW2 hc n hne' hall (zR4 hF hR) hQ⟩
theorem XH.drew (h:XH w0 ρ γ H w):XH w0 ρ γ H w.drew:=⟨h.nd,h.hi,h.ap,fun i o ho=>⟨(h.bl i o ho).1,(h.bl i o ho).2.keep (h.bl i o ho).1 (Agr.refl _ _ _) rfl⟩,h.st.drew⟩
theorem XR.drew (h:XR N w0 ρ γ F H a w):XR N w0 ρ γ F H a w.drew:=h.agr (Agr.refl _ _ _) h.hp.drew
theorem zp13 (hm:P.follows .mixedOrders=true) (hc:XCfOk P call) {ops:Array Oper} {k k' id:Nat} {Q:Exit→Act→World→Prop} (h:xdraw P N call ops F H k=some (F',H',k')) (hR:XR N w0 ρ γ F H a w) (hQ:∀a' w',XPost N w0 ρ γ H F' H' a' w'→Q .normal a' w'):(Code.region id ops true).wp P Q a w:=by
 unfold xdraw at h
 cases hok:planOk ops with
 | false=>rw[hok] at h;cases h
 | true=>
  rw[hok] at h
  simp only[cond_true] at h
  unfold planOk at hok
  rw[Bool.and_eq_true] at hok
  obtain⟨h1,h2⟩:=hok
  have hops:ops=ops.toList.toArray:=by simp
  have fin:∀(st:Option (List (Nat × Nat))),plansR ops≠[]→(∀L∈plansR ops,∃k2 acc2,xplan P N call ops.toList st L F H k []=some ((F',H',k2),acc2))→(Code.region id ops true).wp P Q a w:=fun st hne hall=>by
   rw[hops]
   refine zE8 (plansR ops) hm (by rw[←hops];exact h1) ?_
   refine zW2 hc _ hne (fun L hL=>⟨Nat.eq_of_beq_eq_true (List.all_eq_true.1 h2 L hL),hall L hL⟩) hR.drew (fun a' w' hh=>hQ a' w' hh)
  split at h
  ·cases h
  ·rename_i L hL
   split at h
   ·rename_i s acc hx
    injection h with h
    subst h
    refine fin none (by rw[hL];simp) fun L' hL'=>?_
    rw[hL,List.mem_singleton] at hL'
    subst hL'
    exact⟨_,_,hx⟩
   ·cases h
  ·rename_i L ps _ hL
   split at h
   ·rename_i F1 H1 k1 acc hx
    cases hb:xruns P N call ops.toList (L :: ps) acc F H k F1 H1 with
    | false=>rw[hb] at h;cases h
    | true=>
     rw[hb] at h
     simp only[cond_true,Option.some.injEq,Prod.mk.injEq] at h
     obtain⟨rfl,rfl,rfl⟩:=h
     refine fin (some acc) (by rw[hL];simp) fun L' hL'=>?_
     rw[hL] at hL'
     have:=List.all_eq_true.1 hb L' hL'
     split at this
     ·rename_i F2 H2 k2 acc2 hx2
      rw[Bool.and_eq_true] at this
      rw[XT.same_eq XV.same_eq _ _ this.1,XT.same_eq XB.same_eq _ _ this.2] at hx2
      exact⟨_,_,hx2⟩
     ·cases this
   ·cases h
end
end
section
open Go Go.RowKit
set_option maxRecDepth 100000
def Ext (E E':XEnv):Prop:=E'.w=E.w∧(∀B ob,E.X B=some ob→E'.X B=some ob)∧∀D∈E'.own,D∈E.own∨E.X D=none
theorem Ext.refl (E:XEnv):Ext E E:=⟨rfl,fun _ _ h=>h,fun _ h=>.inl h⟩
theorem Ext.trans {A B C:XEnv} (h:Ext A B) (k:Ext B C):Ext A C:=⟨k.1.trans h.1,fun D ob hD=>k.2.1 D ob (h.2.1 D ob hD),fun D hD=>by
 rcases k.2.2 D hD with h1|h1
 ·exact h.2.2 D h1
 ·cases hA:A.X D with
  | none=>exact .inr rfl
  | some ob=>rw[h.2.1 D ob hA] at h1;cases h1⟩
abbrev XYh:=Option (Nat × (List XV→XHp→Nat→Option (XHp × Nat)))
def XYOk (P:Program) (E:XEnv) (l:Nat) (g:List XV→XHp→Nat→Option (XHp × Nat)) (H0:XHp) (ρ0 γ0:Nat→Nat):Prop:=∀E',Ext E E'→∀args H k H' k',g args H k=some (H',k')→∀ρ γ w,XH E' ρ γ H w→XV.okL (H.has γ) args→Agr H0 ρ0 γ0 H ρ γ→∀n,∃fn tmps assign body,
 (Instr.yield l (XV.denL ρ γ args).toArray).run P w = .ok (.round l fn tmps assign body) w∧RoundIn Fence.wide n P l fn tmps assign body w (fun e w'=>e = .returned (.bool true)∧∃ρ' γ',XH E' ρ' γ' H' w'∧Agr H ρ γ H' ρ' γ')
def XYS (P:Program) (E:XEnv) (ρ γ:Nat→Nat) (H:XHp):XYh→Prop
 | none=>True
 | some (b,g)=>(H.get b).isSome=true∧∃H0 ρ0 γ0,Agr H0 ρ0 γ0 H ρ γ∧XYOk P E (ρ b) g H0 ρ0 γ0
theorem XYS.step {P:Program} {E E':XEnv} {ρ γ ρ' γ':Nat→Nat} {H H':XHp} {yh:XYh} (h:XYS P E ρ γ H yh) (hE:Ext E E') (hA:Agr H ρ γ H' ρ' γ'):XYS P E' ρ' γ' H' yh:=by
 cases yh with
 | none=>trivial
 | some p=>
  obtain⟨b,g⟩:=p
  obtain⟨h1,H0,ρ0,γ0,h2,h3⟩:=h
  obtain⟨a1,a2,_⟩:=hA b h1
  refine⟨a1,H0,ρ0,γ0,h2.trans hA, ?_⟩
  rw[a2]
  exact fun E2 h=>h3 E2 (hE.trans h)
def XF (rd:Bool) (F:Fence):Prop:=(rd=false∧F=Fence.wide)∨(rd=true∧∃l,F=Fence.wide.inRound l)
theorem XF.fn {rd:Bool} {F:Fence} (h:XF rd F) (f:FuncId):F.fn f:=by
 rcases h with⟨_,rfl⟩|⟨_,l,rfl⟩
 ·trivial
 ·trivial
theorem XF.depth {rd:Bool} {F:Fence} (h:XF rd F):F.depth=none:=by
 rcases h with⟨_,rfl⟩|⟨_,l,rfl⟩ <;> rfl
theorem XF.calls {rd:Bool} {F:Fence} (h:XF rd F) {n:Nat} {P:Program} {f:FuncId} {args:Array Value} {w:World} {R:Ending→World→Prop} (hc:Calls P f args w R):CallsIn F n P f args w R:=by
 rcases h with⟨_,rfl⟩|⟨_,l,rfl⟩
 ·exact callsIn_wide.2 hc
 ·exact CallsIn.inRound l (callsIn_wide.2 hc)
theorem zR1 {P:Program} {rd:Bool} {F:Fence} {n:Nat} {o:Oper} {a:Act} {w:World} {K:Act→World→Prop} {Q:Exit→Act→World→Prop} (hF:XF rd F) (hh:effO P o a w K):o.wpIn F n P a w K Q:=by
 refine⟨fun f _=>hF.fn f, ?_⟩
 unfold effO at hh
 by_cases hd:∃c,o.op = .defer c
 ·obtain⟨c,hc⟩:=hd
  exfalso
  unfold execOp at hh
  simp only[hc,Sem.run_bind] at hh
  cases hr:(resolve a.eval c o.type).run P w with
  | ok d w'=>rw[hr] at hh;exact hh
  | halt x w'=>rw[hr] at hh;exact hh
 ·rw[Oper.semAt_eq _ _ _ fun c hc=>hd ⟨c,hc⟩]
  generalize (execOp a.eval o).run P w=r at *
  cases r with
  | ok q w'=>
   cases q <;> simp only[uponE] at hh <;> simp only[Oper.uponIn]
   case enter f args=>
    refine⟨fun h=>(by rw[hF.depth] at h;cases h),(hF.calls hh).mono ?_⟩
    rintro e w'' ⟨v,rfl,hk⟩
    exact hk
   all_goals exact hh
  | halt x w'=>exact hh.elim
def xopY (P:Program) (N:Nat) (call:XCf) (yh:XYh) (F:XFr) (H:XHp) (k:Nat) (o:Oper):Option XSt:=match yh with
 | none=>xop P N call F H k o
 | some (b,g)=>(match o.op with
  | .call ⟨.value fx,args,_⟩=>(match xevn F fx with
   | some (.yl b')=>bif Nat.beq b b' then (match o.dst,xevL F args.toList with
    | some d,some vs=>(match g vs H k with
     | some (H',k')=>(match xput N F d (.v (.bool true)) with
      | some F'=>some (F',H',k')
      | none=>none)
     | none=>none)
    | _,_=>none) else none
   | _=>xop P N call F H k o)
  | _=>xop P N call F H k o)
def xlist (P:Program) (N:Nat) (call:XCf) (yh:XYh) (ops:List Oper):List Oper→XFr→XHp→Nat→Option XSt
 | [],F,H,k=>some (F,H,k)
 | o :: l,F,H,k=>match xguard ops F o with
  | some true=>(match xopY P N call yh F H k o with
   | some (F',H',k')=>xlist P N call yh ops l F' H' k'
   | none=>none)
  | some false=>(match xskip N F o with
   | some F'=>xlist P N call yh ops l F' H k
   | none=>none)
  | none=>none
section
variable {P:Program} {N:Nat} {w0:XEnv} {ρ γ:Nat→Nat} {F F':XFr} {H H':XHp} {a:Act} {w:World} {o:Oper} {call:XCf} {ops l:List Oper} {yh:XYh} {rd:Bool} {Fe:Fence} {n:Nat}
theorem zP14 (hF:XF rd Fe) (hr:rd=true→yh=none) (hc:XCfOk P call) {k k':Nat} {K:Act→World→Prop} {Q:Exit→Act→World→Prop} (h:xopY P N call yh F H k o=some (F',H',k')) (hR:XR N w0 ρ γ F H a w) (hY:XYS P w0 ρ γ H yh) (hK:∀a' w',XPost N w0 ρ γ H F' H' a' w'→K a' w'):o.wpIn Fe n P a w K Q:=by
 have plain:xop P N call F H k o=some (F',H',k')→o.wpIn Fe n P a w K Q:=fun h=>zR1 hF (zZ hK (zp14 hc h w0 ρ γ a w hR))
 unfold xopY at h
 split at h
 ·exact plain h
 ·rename_i b g
  split at h
  ·rename_i fx args tys ho
   split at h
   ·rename_i b' hfx
    cases hb:Nat.beq b b' with
    | false=>rw[hb] at h;cases h
    | true=>
     rw[hb] at h
     simp only[cond_true] at h
     obtain rfl:=Nat.eq_of_beq_eq_true hb
     split at h
     ·rename_i d vs hd hargs
      split at h
      ·rename_i H1 k1 hg
       split at h
       ·rename_i F1 hF1
        simp only[Option.some.injEq,Prod.mk.injEq] at h
        obtain⟨rfl,rfl,rfl⟩:=h
        have hrd:rd=false:=by
         cases rd with
         | false=>rfl
         | true=>cases hr rfl
        obtain rfl:Fe=Fence.wide:=by
         rcases hF with⟨_,h⟩|⟨h,_⟩
         ·exact h
         ·rw[hrd] at h;cases h
        obtain⟨hb1,H0,ρ0,γ0,hA0,hok⟩:=hY
        obtain⟨f1,_⟩:=hR.evn hfx
        obtain⟨a1,a2⟩:=hR.evL hargs
        obtain⟨fn,tmps,assign,body,y1,y2⟩:=hok w0 (Ext.refl _) vs H k H1 k1 hg ρ γ w hR.hp a2 hA0 (n - 1)
        refine⟨fun f _=>trivial, ?_⟩
        rw[Oper.semAt_eq _ _ _ fun c hc=>by rw[ho] at hc;cases hc]
        have hex:(execOp a.eval o).run P w = .ok (.round (ρ b) fn tmps assign body) w:=by
         unfold execOp
         simp only[ho,resolve,f1,XV.den,Deferred.ofValue,Sem.run_bind,Sem.run_pure,Result.andThen_ok,invoke]
         have ha:#[]++args.map a.eval=(XV.denL ρ γ vs).toArray:=by rw[←a1];apply Array.toList_inj.1;simp
         rw[ha]
         exact y1
        rw[hex]
        refine⟨fun h=>(by cases h),y2.mono ?_⟩
        rintro e w' ⟨rfl,ρ',γ',r1,r2⟩
        refine hK _ _ ⟨ρ',γ', ?_,r2⟩
        rw[hd]
        exact(hR.agr r2 r1).put hF1 (x:=.v (.bool true)) trivial
       ·cases h
      ·cases h
     ·cases h
   ·exact plain h
  ·exact plain h
theorem zT4 (hF:XF rd Fe) (hr:rd=true→yh=none) (hc:XCfOk P call) {Q:Exit→Act→World→Prop}:∀{l:List Oper} {F:XFr} {H:XHp} {k k':Nat} {ρ γ:Nat→Nat} {a:Act} {w:World},xlist P N call yh ops l F H k=some (F',H',k')→XR N w0 ρ γ F H a w→XYS P w0 ρ γ H yh→(∀a' w',XPost N w0 ρ γ H F' H' a' w'→Q .normal a' w')→wpListIn Fe n P ops.toArray Q l a w
 | [],F,H,k,k',ρ,γ,a,w,h,hR,hY,hQ=>by
  simp only[xlist,Option.some.injEq,Prod.mk.injEq] at h
  obtain⟨rfl,rfl,rfl⟩:=h
  exact wpListIn_nil (hQ _ _ ⟨ρ,γ,hR,Agr.refl _ _ _⟩)
 | o :: l,F,H,k,k',ρ,γ,a,w,h,hR,hY,hQ=>by
  unfold xlist at h
  split at h
  ·rename_i hg
   split at h
   ·rename_i F1 H1 k1 ho
    refine wpListIn_step fun K hK=>?_
    rw[if_pos (zQ1 hg hR)]
    refine zP14 hF hr hc ho hR hY fun a' w' hh=>?_
    obtain⟨ρ1,γ1,h1,h2⟩:=hh
    exact hK _ _ (zT4 hF hr hc h h1 (hY.step (Ext.refl _) h2) fun a2 w2 ⟨ρ2,γ2,h3,h4⟩=>hQ _ _ ⟨ρ2,γ2,h3,h2.trans h4⟩)
   ·cases h
  ·rename_i hg
   split at h
   ·rename_i F1 ho
    refine wpListIn_step fun K hK=>?_
    rw[if_neg (by rw[zQ1 hg hR];simp)]
    exact⟨fun f _=>hF.fn f,hK _ _ (zT4 hF hr hc h (zR4 ho hR) hY hQ)⟩
   ·cases h
  ·cases h
end
end
end Go.Proofs.YtophoepbedlhjaaGreatDoor
