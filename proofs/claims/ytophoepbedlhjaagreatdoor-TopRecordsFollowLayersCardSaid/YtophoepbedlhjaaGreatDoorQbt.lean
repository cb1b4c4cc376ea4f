/- Closed calls: inside a fence: lists of operations, a loop's yield. Conditions: none. -/
import Derived.Test.YtophoepbedlhjaaGreatDoorQbs
import Derived.Scope
import Derived.LoopNIn
import Derived.TacticsIn
import Derived.RangeFuncLeaves
import Derived.RangeFuncCalls
set_option linter.unusedSimpArgs false
set_option linter.unusedVariables false
namespace Go.Proofs.YtophoepbedlhjaaGreatDoor
open Go Go.RowKit
set_option maxRecDepth 100000
def Ext (E E':XEnv):Prop:=E'.w=E.w∧(∀B ob,E.X B=some ob→E'.X B=some ob)∧∀D∈E'.own,D∈E.own∨E.X D=none
theorem Ext.refl (E:XEnv):Ext E E:=⟨rfl,fun _ _ h=>h,fun _ h=>.inl h⟩
theorem Ext.trans {A B C:XEnv} (h:Ext A B) (k:Ext B C):Ext A C:=⟨k.1.trans h.1,fun D ob hD=>k.2.1 D ob (h.2.1 D ob hD),fun D hD=>by
 rcases k.2.2 D hD with h1|h1
 ·exact h.2.2 D h1
 ·cases hA:A.X D with
  | none=>exact .inr rfl
  | some ob=>rw[h.2.1 D ob hA] at h1;cases h1⟩
abbrev XYh:=Option (Nat × (List XV→XHp→Nat→Option (XHp × Nat)))
def XYOk (P:Program) (E:XEnv) (l:Nat) (g:List XV→XHp→Nat→Option (XHp × Nat)) (H0:XHp) (ρ0 γ0:Nat→Nat):Prop:=∀E',Ext E E'→∀args H k H' k',g args H k=some (H',k')→∀ρ γ w,XH E' ρ γ H w→XV.okL (H.has γ) args→Agr H0 ρ0 γ0 H ρ γ→∀n,∃fn tmps assign body,
 (Instr.yield l (XV.denL ρ γ args).toArray).run P w = .ok (.round l fn tmps assign body) w∧RoundIn Fence.wide n P l fn tmps assign body w (fun e w'=>e = .returned (.bool true)∧∃ρ' γ',XH E' ρ' γ' H' w'∧Agr H ρ γ H' ρ' γ')
def XYS (P:Program) (E:XEnv) (ρ γ:Nat→Nat) (H:XHp):XYh→Prop
 | none=>True
 | some (b,g)=>(H.get b).isSome=true∧∃H0 ρ0 γ0,Agr H0 ρ0 γ0 H ρ γ∧XYOk P E (ρ b) g H0 ρ0 γ0
theorem XYS.step {P:Program} {E E':XEnv} {ρ γ ρ' γ':Nat→Nat} {H H':XHp} {yh:XYh} (h:XYS P E ρ γ H yh) (hE:Ext E E') (hA:Agr H ρ γ H' ρ' γ'):XYS P E' ρ' γ' H' yh:=by
 cases yh with
 | none=>trivial
 | some p=>
  obtain⟨b,g⟩:=p
  obtain⟨h1,H0,ρ0,γ0,h2,h3⟩:=h
  obtain⟨a1,a2,_⟩:=hA b h1
  refine⟨a1,H0,ρ0,γ0,h2.trans hA, ?_⟩
  rw[a2]
  exact fun E2 h=>h3 E2 (hE.trans h)
def XF (rd:Bool) (F:Fence):Prop:=(rd=false∧F=Fence.wide)∨(rd=true∧∃l,F=Fence.wide.inRound l)
theorem XF.fn {rd:Bool} {F:Fence} (h:XF rd F) (f:FuncId):F.fn f:=by
 rcases h with⟨_,rfl⟩|⟨_,l,rfl⟩
 ·trivial
 ·trivial
theorem XF.depth {rd:Bool} {F:Fence} (h:XF rd F):F.depth=none:=by
 rcases h with⟨_,rfl⟩|⟨_,l,rfl⟩ <;> rfl
theorem XF.calls {rd:Bool} {F:Fence} (h:XF rd F) {n:Nat} {P:Program} {f:FuncId} {args:Array Value} {w:World} {R:Ending→World→Prop} (hc:Calls P f args w R):CallsIn F n P f args w R:=by
 rcases h with⟨_,rfl⟩|⟨_,l,rfl⟩
 ·exact callsIn_wide.2 hc
 ·exact CallsIn.inRound l (callsIn_wide.2 hc)
theorem zC1 {P:Program} {rd:Bool} {F:Fence} {n:Nat} {o:Oper} {a:Act} {w:World} {K:Act→World→Prop} {Q:Exit→Act→World→Prop} (hF:XF rd F) (hh:effO P o a w K):o.wpIn F n P a w K Q:=by
 refine⟨fun f _=>hF.fn f, ?_⟩
 unfold effO at hh
 by_cases hd:∃c,o.op = .defer c
 ·obtain⟨c,hc⟩:=hd
  exfalso
  unfold execOp at hh
  simp only[hc,Sem.run_bind] at hh
  cases hr:(resolve a.eval c o.type).run P w with
  | ok d w'=>rw[hr] at hh;exact hh
  | halt x w'=>rw[hr] at hh;exact hh
 ·rw[Oper.semAt_eq _ _ _ fun c hc=>hd ⟨c,hc⟩]
  generalize (execOp a.eval o).run P w=r at *
  cases r with
  | ok q w'=>
   cases q <;> simp only[uponE] at hh <;> simp only[Oper.uponIn]
   case enter f args=>
    refine⟨fun h=>(by rw[hF.depth] at h;cases h),(hF.calls hh).mono ?_⟩
    rintro e w'' ⟨v,rfl,hk⟩
    exact hk
   all_goals exact hh
  | halt x w'=>exact hh.elim
def xopY (P:Program) (N:Nat) (call:XCf) (yh:XYh) (F:XFr) (H:XHp) (k:Nat) (o:Oper):Option XSt:=match yh with
 | none=>xop P N call F H k o
 | some (b,g)=>(match o.op with
  | .call ⟨.value fx,args,_⟩=>(match xevn F fx with
   | some (.yl b')=>bif Nat.beq b b' then (match o.dst,xevL F args.toList with
    | some d,some vs=>(match g vs H k with
     | some (H',k')=>(match xput N F d (.v (.bool true)) with
      | some F'=>some (F',H',k')
      | none=>none)
     | none=>none)
    | _,_=>none) else none
   | _=>xop P N call F H k o)
  | _=>xop P N call F H k o)
def xlist (P:Program) (N:Nat) (call:XCf) (yh:XYh) (ops:List Oper):List Oper→XFr→XHp→Nat→Option XSt
 | [],F,H,k=>some (F,H,k)
 | o :: l,F,H,k=>match xguard ops F o with
  | some true=>(match xopY P N call yh F H k o with
   | some (F',H',k')=>xlist P N call yh ops l F' H' k'
   | none=>none)
  | some false=>(match xskip N F o with
   | some F'=>xlist P N call yh ops l F' H k
   | none=>none)
  | none=>none
section
variable {P:Program} {N:Nat} {w0:XEnv} {ρ γ:Nat→Nat} {F F':XFr} {H H':XHp} {a:Act} {w:World} {o:Oper} {call:XCf} {ops l:List Oper} {yh:XYh} {rd:Bool} {Fe:Fence} {n:Nat}
theorem xopY_ok (hF:XF rd Fe) (hr:rd=true→yh=none) (hc:XCfOk P call) {k k':Nat} {K:Act→World→Prop} {Q:Exit→Act→World→Prop} (h:xopY P N call yh F H k o=some (F',H',k')) (hR:XR N w0 ρ γ F H a w) (hY:XYS P w0 ρ γ H yh) (hK:∀a' w',XPost N w0 ρ γ H F' H' a' w'→K a' w'):o.wpIn Fe n P a w K Q:=by
 have plain:xop P N call F H k o=some (F',H',k')→o.wpIn Fe n P a w K Q:=fun h=>zC1 hF (zT hK (xop_ok hc h w0 ρ γ a w hR))
 unfold xopY at h
 split at h
 ·exact plain h
 ·rename_i b g
  split at h
  ·rename_i fx args tys ho
   split at h
   ·rename_i b' hfx
    cases hb:Nat.beq b b' with
    | false=>rw[hb] at h;cases h
    | true=>
     rw[hb] at h
     simp only[cond_true] at h
     obtain rfl:=Nat.eq_of_beq_eq_true hb
     split at h
     ·rename_i d vs hd hargs
      split at h
      ·rename_i H1 k1 hg
       split at h
       ·rename_i F1 hF1
        simp only[Option.some.injEq,Prod.mk.injEq] at h
        obtain⟨rfl,rfl,rfl⟩:=h
        have hrd:rd=false:=by
         cases rd with
         | false=>rfl
         | true=>cases hr rfl
        obtain rfl:Fe=Fence.wide:=by
         rcases hF with⟨_,h⟩|⟨h,_⟩
         ·exact h
         ·rw[hrd] at h;cases h
        obtain⟨hb1,H0,ρ0,γ0,hA0,hok⟩:=hY
        obtain⟨f1,_⟩:=hR.evn hfx
        obtain⟨a1,a2⟩:=hR.evL hargs
        obtain⟨fn,tmps,assign,body,y1,y2⟩:=hok w0 (Ext.refl _) vs H k H1 k1 hg ρ γ w hR.hp a2 hA0 (n - 1)
        refine⟨fun f _=>trivial, ?_⟩
        rw[Oper.semAt_eq _ _ _ fun c hc=>by rw[ho] at hc;cases hc]
        have hex:(execOp a.eval o).run P w = .ok (.round (ρ b) fn tmps assign body) w:=by
         unfold execOp
         simp only[ho,resolve,f1,XV.den,Deferred.ofValue,Sem.run_bind,Sem.run_pure,Result.andThen_ok,invoke]
         have ha:#[]++args.map a.eval=(XV.denL ρ γ vs).toArray:=by rw[←a1];apply Array.toList_inj.1;simp
         rw[ha]
         exact y1
        rw[hex]
        refine⟨fun h=>(by cases h),y2.mono ?_⟩
        rintro e w' ⟨rfl,ρ',γ',r1,r2⟩
        refine hK _ _ ⟨ρ',γ', ?_,r2⟩
        rw[hd]
        exact(hR.agr r2 r1).put hF1 (x:=.v (.bool true)) trivial
       ·cases h
      ·cases h
     ·cases h
   ·exact plain h
  ·exact plain h
theorem zM4 (hF:XF rd Fe) (hr:rd=true→yh=none) (hc:XCfOk P call) {Q:Exit→Act→World→Prop}:∀{l:List Oper} {F:XFr} {H:XHp} {k k':Nat} {ρ γ:Nat→Nat} {a:Act} {w:World},xlist P N call yh ops l F H k=some (F',H',k')→XR N w0 ρ γ F H a w→XYS P w0 ρ γ H yh→(∀a' w',XPost N w0 ρ γ H F' H' a' w'→Q .normal a' w')→wpListIn Fe n P ops.toArray Q l a w
 | [],F,H,k,k',ρ,γ,a,w,h,hR,hY,hQ=>by
  simp only[xlist,Option.some.injEq,Prod.mk.injEq] at h
  obtain⟨rfl,rfl,rfl⟩:=h
  exact wpListIn_nil (hQ _ _ ⟨ρ,γ,hR,Agr.refl _ _ _⟩)
 | o :: l,F,H,k,k',ρ,γ,a,w,h,hR,hY,hQ=>by
  unfold xlist at h
  split at h
  ·rename_i hg
   split at h
   ·rename_i F1 H1 k1 ho
    refine wpListIn_step fun K hK=>?_
    rw[if_pos (zB1 hg hR)]
    refine xopY_ok hF hr hc ho hR hY fun a' w' hh=>?_
    obtain⟨ρ1,γ1,h1,h2⟩:=hh
    exact hK _ _ (zM4 hF hr hc h h1 (hY.step (Ext.refl _) h2) fun a2 w2 ⟨ρ2,γ2,h3,h4⟩=>hQ _ _ ⟨ρ2,γ2,h3,h2.trans h4⟩)
   ·cases h
  ·rename_i hg
   split at h
   ·rename_i F1 ho
    refine wpListIn_step fun K hK=>?_
    rw[if_neg (by rw[zB1 hg hR];simp)]
    exact⟨fun f _=>hF.fn f,hK _ _ (zM4 hF hr hc h (zK4 ho hR) hY hQ)⟩
   ·cases h
  ·cases h
end
end Go.Proofs.YtophoepbedlhjaaGreatDoor
