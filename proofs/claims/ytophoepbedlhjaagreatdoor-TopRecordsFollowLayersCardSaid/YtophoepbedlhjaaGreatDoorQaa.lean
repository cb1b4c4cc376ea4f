/- A region that draws its order, walked once: readers as early as they may come, effects in their one order; behind each effect the readers that may as well come later are read again. Conditions: 'okPlan' (closed, by the kernel). -/
import Derived.Still
import Derived.OrdersIn
import Derived.TacticsIn
import Derived.LoopNIn
import Derived.RangeFuncLeaves
import Derived.RangeFuncCalls
import Derived.Tactics
import Derived.KernelRfl
set_option linter.unusedSimpArgs false
set_option linter.unusedVariables false
namespace Go.Proofs.YtophoepbedlhjaaGreatDoor
open Go
section
variable {P:Program} {ops:Array Oper}
def uponE (P:Program) (o:Oper) (a:Act) (K:Act→World→Prop):Result Next→Prop
 | .ok (.value v) w'=>K (a.put o.dst v) w'
 | .ok .skip w'=>K (a.put o.dst undef) w'
 | .ok (.enter f args) w'=>Calls P f args w' fun e w''=>∃v,e = .returned v∧K (a.put o.dst v) w''
 | _=>False
def effO (P:Program) (o:Oper) (a:Act) (w:World) (K:Act→World→Prop):Prop:=uponE P o a K ((execOp a.eval o).run P w)
theorem zT {o:Oper} {a:Act} {w:World} {K K':Act→World→Prop} (h:∀a w,K a w→K' a w) (hh:effO P o a w K):effO P o a w K':=by
 unfold effO at *
 generalize (execOp a.eval o).run P w=r at *
 cases r with
 | ok n w'=>
  cases n <;> simp only[uponE] at hh ⊢
  case enter f args=>exact hh.mono fun e w'' ⟨v,he,hk⟩=>⟨v,he,h _ _ hk⟩
  all_goals exact h _ _ hh
 | halt x w'=>simp only[uponE] at hh
def effOp (P:Program) (ops:Array Oper) (i:Nat) (K:Act→World→Prop) (a:Act) (w:World):Prop:=
 match ops[i]? with
 | none=>False
 | some o=>if Region.wanted o (yielded ops a.tmps) then effO P o a w K else K (a.put o.dst undef) w
theorem zw1 {i:Nat} {a:Act} {w:World} {K K':Act→World→Prop} (h:∀a w,K a w→K' a w) (hh:effOp P ops i K a w):effOp P ops i K' a w:=by
 unfold effOp at *
 split
 ·rename_i ho;simp only[ho] at hh
 ·rename_i o ho
  simp only[ho] at hh
  split
  ·rename_i hw;simp only[hw,if_true] at hh;exact zT h hh
  ·rename_i hw;simp only[hw] at hh;exact h _ _ hh
def FcOk (F:Fence):Prop:=F=Fence.wide∨∃l,F=Fence.wide.inRound l
theorem FcOk.fn {F:Fence} (h:FcOk F) (f:FuncId):F.fn f:=by
 rcases h with rfl|⟨l,rfl⟩
 ·trivial
 ·trivial
theorem FcOk.depth {F:Fence} (h:FcOk F):F.depth=none:=by
 rcases h with rfl|⟨l,rfl⟩ <;> rfl
theorem FcOk.calls {F:Fence} (h:FcOk F) {n:Nat} {f:FuncId} {args:Array Value} {w:World} {R:Ending→World→Prop} (hc:Calls P f args w R):CallsIn F n P f args w R:=by
 rcases h with rfl|⟨l,rfl⟩
 ·exact callsIn_wide.2 hc
 ·exact CallsIn.inRound l (callsIn_wide.2 hc)
theorem zX2 {F:Fence} {n:Nat} {o:Oper} {a:Act} {w:World} {K:Act→World→Prop} {Q:Exit→Act→World→Prop} (hF:FcOk F) (hh:effO P o a w K):o.wpIn F n P a w K Q:=by
 refine⟨fun f _=>hF.fn f, ?_⟩
 unfold effO at hh
 by_cases hd:∃c,o.op = .defer c
 ·obtain⟨c,hc⟩:=hd
  exfalso
  unfold execOp at hh
  simp only[hc,Sem.run_bind] at hh
  cases hr:(resolve a.eval c o.type).run P w with
  | ok d w'=>rw[hr] at hh;exact hh
  | halt x w'=>rw[hr] at hh;exact hh
 ·rw[Oper.semAt_eq _ _ _ fun c hc=>hd ⟨c,hc⟩]
  generalize (execOp a.eval o).run P w=r at *
  cases r with
  | ok q w'=>
   cases q <;> simp only[uponE] at hh <;> simp only[Oper.uponIn]
   case enter f args=>
    refine⟨fun h=>(by rw[hF.depth] at h;cases h),(hF.calls hh).mono ?_⟩
    rintro e w'' ⟨v,rfl,hk⟩
    exact hk
   all_goals exact hh
  | halt x w'=>exact hh.elim
theorem zx6 {o:Oper} {a:Act} {w:World} {K:Act→Prop} {K':Act→World→Prop} (h:∀a,K a→K' a w) (hh:o.still P a w K):effO P o a w K':=by
 unfold Oper.still at hh
 unfold effO
 generalize (execOp a.eval o).run P w=r at *
 cases r with
 | ok n w'=>
  cases n <;> simp only[Oper.stillUpon] at hh <;> simp only[uponE]
  case enter f args=>
   obtain⟨rfl,v,hc,hn⟩:=hh
   exact hc.mono fun e w'' ⟨he,hw⟩=>⟨v,he,by subst hw;exact h _ hn⟩
  all_goals (obtain⟨rfl,h2⟩:=hh;exact h _ h2)
 | halt x w'=>simp only[Oper.stillUpon] at hh
theorem zS2 {F:Fence} {n i:Nat} {a:Act} {w:World} {K:Act→Prop} {K':Act→World→Prop} {Q':Exit→Act→World→Prop} (hF:FcOk F) (h:∀a,K a→K' a w) (hh:stOp P ops w i K a):wpOpIn F n P ops Q' i K' a w:=by
 unfold stOp at hh
 unfold wpOpIn
 split
 ·rename_i ho;simp only[ho] at hh;exact h _ hh
 ·rename_i o ho
  simp only[ho] at hh
  split
  ·rename_i hw;simp only[hw,if_true] at hh;exact zX2 hF (zx6 h hh)
  ·rename_i hw;simp only[hw] at hh;exact⟨fun f _=>hF.fn f,h _ hh⟩
theorem zt3 {F:Fence} {n i:Nat} {a:Act} {w:World} {K:Act→World→Prop} {Q:Exit→Act→World→Prop} (hF:FcOk F) (hh:effOp P ops i K a w):wpOpIn F n P ops Q i K a w:=by
 unfold effOp at hh
 unfold wpOpIn
 split
 ·rename_i ho;simp only[ho] at hh
 ·rename_i o ho
  simp only[ho] at hh
  split
  ·rename_i hw;simp only[hw,if_true] at hh;exact zX2 hF hh
  ·rename_i hw;simp only[hw] at hh;exact⟨fun f _=>hF.fn f,hh⟩
def again (P:Program) (ops:Array Oper) (j:Nat) (a:Act) (w:World):Prop:=stOp P ops w j (fun a'=>a'=a) a
theorem swapE {x i:Nat} {ox oi:Oper} {U:List Nat} {K:Act→World→Prop} {a:Act} {w:World} (hx:ops[x]?=some ox) (hi:ops[i]?=some oi) (hap:ox.apart ops oi=true)
    (hself:∀d,ox.dst=some d→d∉ox.looksAt ops)
    (hU:∀j∈U,∀oj,ops[j]?=some oj→(∀d,ox.dst=some d→d∉oj.looksAt ops)∧(∀d,ox.dst=some d→oj.dst≠some d))
    (hsx:∀cs b,ox.op≠.select cs b) (hsi:∀cs b,oi.op≠.select cs b) (hsU:∀j∈U,∀oj,ops[j]?=some oj→∀cs b,oj.op≠.select cs b)
    (h:stOp P ops w x (fun a1=>effOp P ops i (fun a' w'=>((∀j∈U,again P ops j a' w')∧again P ops x a' w')∧K a' w') a1 w) a) :
    effOp P ops i (fun a' w'=>(∀j∈U,again P ops j a' w')∧stOp P ops w' x (fun a''=>K a'' w') a') a w:=by
 obtain⟨v,_,h⟩:=yieldsAt_of_stOp hx h
 obtain⟨h1,h2,h3⟩:=Oper.apart_spec hap
 have key:∀(u:Value) (w':World),((∀j∈U,again P ops j ((a.put ox.dst v).put oi.dst u) w')∧again P ops x ((a.put ox.dst v).put oi.dst u) w')∧K ((a.put ox.dst v).put oi.dst u) w' →
     (∀j∈U,again P ops j (a.put oi.dst u) w')∧stOp P ops w' x (fun a''=>K a'' w') (a.put oi.dst u):=by
  rintro u w' ⟨⟨hj,hag⟩,hK⟩
  have hc:(a.put ox.dst v).put oi.dst u=(a.put oi.dst u).put ox.dst v:=Act.put_comm a v u h2
  rw[hc] at hag hK
  refine⟨fun j hjU=>?_, ?_⟩
  ·have hjr:=hj j hjU
   rw[hc] at hjr
   unfold again at hjr ⊢
   cases hoj:ops[j]? with
   | none=>unfold stOp;simp only[hoj]
   | some oj=>
    obtain⟨g1,g2⟩:=hU j hjU oj hoj
    obtain⟨vj,hy,he⟩:=yieldsAt_of_stOp hoj hjr
    have hy':YieldsAt P ops w' oj vj (a.put oi.dst u):=
     hy.of_same (execOp_put oj (hsU j hjU oj hoj) _ ox.dst v g1).symm (wanted_put oj _ ox.dst v g1).symm
    refine hy'.stOp hoj ?_
    generalize a.put oi.dst u=b at *
    -- b.put x v, put j vj = b.put x v, and j's slot is not x's
    cases hdj:oj.dst with
    | none=>rfl
    | some dj=>
     rw[hdj] at he
     cases hdx:ox.dst with
     | none=>rw[hdx] at he;exact he
     | some dx=>
      rw[hdx] at he
      have hne:dx≠dj:=fun e=>g2 dx hdx (by rw[hdj,e])
      have ht:=congrArg Act.tmps he
      simp only[Act.put] at ht ⊢
      have:b.tmps.setIfInBounds dj vj=b.tmps:=by
       refine Array.ext_getElem? fun k=>?_
       by_cases hk:dj=k
       ·subst hk
        have:=congrArg (fun t:Array Value=>t[dj]?) ht
        simp only[Array.getElem?_setIfInBounds_ne hne] at this
        rw[←this]
        simp only[Array.getElem?_setIfInBounds_self,Array.size_setIfInBounds]
       ·rw[Array.getElem?_setIfInBounds_ne hk]
      rw[this]
  ·obtain⟨v',hy,he⟩:=yieldsAt_of_stOp hx hag
   have hy':YieldsAt P ops w' ox v' (a.put oi.dst u):=
    hy.of_same (execOp_put ox hsx _ ox.dst v hself).symm (wanted_put ox _ ox.dst v hself).symm
   refine hy'.stOp hx ?_
   have:(a.put oi.dst u).put ox.dst v'=(a.put oi.dst u).put ox.dst v:=by
    rw[←he]
    cases hdx:ox.dst with
    | none=>rfl
    | some dx=>simp[Act.put]
   rw[this];exact hK
 unfold effOp at h ⊢
 simp only[hi] at h ⊢
 rw[wanted_put oi a ox.dst v h1] at h
 split
 ·rename_i hw
  simp only[hw,if_true] at h
  unfold effO at *
  rw[execOp_put oi hsi a ox.dst v h1] at h
  generalize (execOp a.eval oi).run P w=r at *
  cases r with
  | ok n w'=>
   cases n <;> simp only[uponE] at h ⊢
   case value u=>exact key u w' h
   case skip=>exact key undef w' h
   case enter f args=>exact h.mono fun e w'' ⟨u,he,hk⟩=>⟨u,he,key u w'' hk⟩
  | halt z w'=>simp only[uponE] at h
 ·rename_i hw
  simp only[hw] at h
  exact key undef w h
def rd (P:Program) (ops:Array Oper):List Nat→(Act→World→Prop)→Act→World→Prop
 | [],K,a,w=>K a w
 | x :: l,K,a,w=>stOp P ops w x (fun a'=>rd P ops l K a' w) a
theorem ze5 {K K':Act→World→Prop} (h:∀a w,K a w→K' a w):∀(l:List Nat) (a:Act) (w:World),rd P ops l K a w→rd P ops l K' a w
 | [],a,w,hh=>h a w hh
 | _ :: l,_,w,hh=>stOp_mono (fun a'=>ze5 h l a' w) hh
theorem zH1 {K:Act→World→Prop}:∀(l l':List Nat) (a:Act) (w:World),rd P ops (l++l') K a w=rd P ops l (rd P ops l' K) a w
 | [],_,_,_=>rfl
 | x :: l,l',a,w=>by
  show stOp P ops w x (fun a'=>rd P ops (l++l') K a' w) a=stOp P ops w x (fun a'=>rd P ops l (rd P ops l' K) a' w) a
  have:(fun a'=>rd P ops (l++l') K a' w)=(fun a'=>rd P ops l (rd P ops l' K) a' w):=funext fun a'=>zH1 l l' a' w
  rw[this]
def aside (ops:Array Oper) (x j:Nat):Bool:=
 match ops[x]?,ops[j]? with
 | some ox,some oj=>(match ox.dst with|some d=>!(oj.looksAt ops).contains d && oj.dst != some d|none=>true)
 | _,_=>false
def selfish (ops:Array Oper) (x:Nat):Bool:=
 match ops[x]? with
 | some ox=>(match ox.dst with|some d=>!(ox.looksAt ops).contains d|none=>true)
 | _=>false
def apartB (ops:Array Oper) (x i:Nat):Bool:=
 match ops[x]?,ops[i]? with
 | some ox,some oi=>ox.apart ops oi
 | _,_=>false
theorem moveE {i:Nat} (hsel:Region.noSelect ops=true):∀(n:Nat) (l:List Nat),l.length=n→∀(K:Act→World→Prop) (a:Act) (w:World),
    (∀x∈l,apartB ops x i=true∧selfish ops x=true)→l.Pairwise (fun j x=>aside ops x j=true) →
    rd P ops l (fun a w=>effOp P ops i (fun a' w'=>(∀j∈l,again P ops j a' w')∧K a' w') a w) a w→effOp P ops i (fun a' w'=>rd P ops l K a' w') a w:=by
 intro n
 induction n with
 | zero=>
  intro l hl K a w _ _ h
  have:l = []:=List.eq_nil_of_length_eq_zero hl
  subst this
  exact zw1 (fun _ _ hh=>hh.2) h
 | succ n ih=>
  intro l hl K a w hap hpw h
  have hne:l≠[]:=by rintro rfl;simp at hl
  obtain⟨l',x,rfl⟩:∃l' x,l=l'++[x]:=⟨l.dropLast,l.getLast hne,(List.dropLast_concat_getLast hne).symm⟩
  have hl':l'.length=n:=by simpa using hl
  rw[zH1] at h
  have hx:=hap x (by simp)
  have hpw':=List.pairwise_append.1 hpw
  have h2:rd P ops l' (fun a w=>effOp P ops i (fun a' w'=>(∀j∈l',again P ops j a' w')∧rd P ops [x] K a' w') a w) a w:=by
   refine ze5 (fun a w hh=>?_) l' a w h
   cases hox:ops[x]? with
   | none=>simp[apartB,hox] at hx
   | some ox=>
    cases hoi:ops[i]? with
    | none=>simp[apartB,hox,hoi] at hx
    | some oi=>
     have hxa:ox.apart ops oi=true:=by simpa [apartB,hox,hoi] using hx.1
     have hxs:∀d,ox.dst=some d→d∉ox.looksAt ops:=fun d hd=>by
      have:=hx.2;simp[selfish,hox,hd] at this;exact this
     refine swapE hox hoi hxa hxs (fun j hj oj hoj=>?_) (fun cs b=>Region.noSelect_spec hsel x ox cs b hox) (fun cs b=>Region.noSelect_spec hsel i oi cs b hoi) (fun j _ oj hoj cs b=>Region.noSelect_spec hsel j oj cs b hoj) ?_
     ·have:=hpw'.2.2 j hj x (by simp)
      constructor
      ·intro d hd;simp[aside,hox,hoj,hd] at this;exact this.1
      ·intro d hd;simp[aside,hox,hoj,hd] at this;exact this.2
     ·refine stOp_mono (fun a1 hh1=>zw1 (fun a' w' hh2=>⟨⟨fun j hj=>hh2.1 j (by simp[hj]),hh2.1 x (by simp)⟩,hh2.2⟩) hh1) hh
  have h3:=ih l' hl' (rd P ops [x] K) a w (fun y hy=>hap y (by simp[hy])) hpw'.1 h2
  refine zw1 (fun a' w' hh=>?_) h3
  rw[zH1];exact hh
theorem moveR {i:Nat} (hsel:Region.noSelect ops=true):∀(l:List Nat) (K:Act→World→Prop) (a:Act) (w:World),
    (∀x∈l,apartB ops x i=true)→rd P ops l (fun a w=>stOp P ops w i (fun a'=>K a' w) a) a w→stOp P ops w i (fun a'=>rd P ops l K a' w) a
 | [],_,_,_,_,h=>h
 | x :: l,K,a,w,hap,h=>by
  have hx:=hap x (by simp)
  cases hox:ops[x]? with
  | none=>simp[apartB,hox] at hx
  | some ox=>
   cases hoi:ops[i]? with
   | none=>simp[apartB,hox,hoi] at hx
   | some oi=>
    have hxa:ox.apart ops oi=true:=by simpa [apartB,hox,hoi] using hx
    obtain⟨v,hy,h1⟩:=yieldsAt_of_stOp hox h
    have h2:=moveR hsel l K _ w (fun y hy=>hap y (by simp[hy])) h1
    have h3:=stOp_put hoi hxa (fun cs b=>Region.noSelect_spec hsel x ox cs b hox) (fun cs b=>Region.noSelect_spec hsel i oi cs b hoi) hy h2
    exact stOp_mono (fun a' ⟨hy',hk⟩=>hy'.stOp hox hk) h3
def wpT (P:Program) (ops:Array Oper) (Q:Act→World→Prop):List (Nat × Option (List Nat))→Act→World→Prop
 | [],a,w=>Q a w
 | (i,none) :: L,a,w=>stOp P ops w i (fun a'=>wpT P ops Q L a' w) a
 | (i,some U) :: L,a,w=>effOp P ops i (fun a' w'=>(∀j∈U,again P ops j a' w')∧wpT P ops Q L a' w') a w
theorem zR2 {Q:Act→World→Prop}:∀(l:List Nat) (L:List (Nat × Option (List Nat))) (a:Act) (w:World),wpT P ops Q (l.map (fun i=>(i,none))++L) a w=rd P ops l (wpT P ops Q L) a w
 | [],_,_,_=>rfl
 | x :: l,L,a,w=>by
  show stOp P ops w x (fun a'=>wpT P ops Q (l.map (fun i=>(i,none))++L) a' w) a=_
  have:(fun a'=>wpT P ops Q (l.map (fun i=>(i,none))++L) a' w)=(fun a'=>rd P ops l (wpT P ops Q L) a' w):=funext fun a'=>zR2 l L a' w
  rw[this];rfl
def pairOk (ops:Array Oper) (B:Array Nat) (x y:Nat × Option (List Nat)):Bool:=
 (B.getD y.1 0).testBit x.1 || (x.2.isNone && apartB ops x.1 y.1 &&
  match y.2 with
  | none=>true
  | some U=>U.contains x.1 && selfish ops x.1)
def asideOk (ops:Array Oper) (L:List (Nat × Option (List Nat))) (x y:Nat):Bool:=
 aside ops y x || L.all fun z=>match z.2 with|some U=>!(U.contains x && U.contains y)|none=>true
def pairwiseB {α:Type} (r:α→α→Bool):List α→Bool
 | []=>true
 | x :: l=>l.all (r x) && pairwiseB r l
theorem zV {α:Type} {r:α→α→Bool}:∀{l:List α},pairwiseB r l=true→l.Pairwise fun x y=>r x y=true
 | [],_=>List.Pairwise.nil
 | x :: l,h=>by
  simp only[pairwiseB,Bool.and_eq_true,List.all_eq_true] at h
  exact List.Pairwise.cons h.1 (zV h.2)
def soundB (ops:Array Oper) (B:Array Nat):Bool:=
 (List.range ops.size).all fun i=>match ops[i]? with
  | none=>true
  | some o=>o.after.all (fun e=>!Region.binds .any e || decide (e.on < i)) &&
   (List.range ops.size).all fun x=>!(B.getD i 0).testBit x || o.after.any fun e=>Region.binds .any e && (e.on == x || (B.getD e.on 0).testBit x)
def bitsSmall (ops:Array Oper) (B:Array Nat):Bool:=(List.range ops.size).all fun i=>decide (B.getD i 0 < 2 ^ ops.size)
def okPlan (ops:Array Oper) (L:List (Nat × Option (List Nat))):Bool:=
 let B:=Region.before ops
 Region.noSelect ops && soundB ops B && bitsSmall ops B && ((List.range ops.size).all fun i=>(L.map (·.1)).contains i) && pairwiseB (fun x y=>x != y) (L.map (·.1)) && (L.all fun x=>decide (x.1 < ops.size)) &&
  pairwiseB (pairOk ops B) L && pairwiseB (fun x y=>asideOk ops L x y) (L.map (·.1)) && L.length == ops.size
structure PlanInv (ops:Array Oper) (B:Array Nat) (L0 L:List (Nat × Option (List Nat))) (listed:Array Bool):Prop where
 size:listed.size=ops.size
 mem:∀i,i < ops.size→(listed.getD i true=false↔i∈L.map (·.1))
 lt:∀x∈L,x.1 < ops.size
 closed:∀j oj,ops[j]?=some oj→listed.getD j false=true→∀e∈oj.after,Region.binds .any e=true→listed.getD e.on false=true
 pair:L.Pairwise fun x y=>pairOk ops B x y=true
 aside:(L.map (·.1)).Pairwise fun x y=>asideOk ops L0 x y=true
 sub:∀x∈L,x∈L0
 nodup:(L.map (·.1)).Pairwise fun x y=>(x != y)=true
theorem zp4 {listed:Array Bool} {i:Nat} (h:listed.getD i true=false):listed.getD i false=false:=by
 rcases Nat.lt_or_ge i listed.size with h'|h'
 ·simp[h'] at h ⊢;exact h
 ·simp[Array.getElem?_eq_none h'] at h
theorem zO9 {B:Array Nat} {L0 L:List (Nat × Option (List Nat))} {listed:Array Bool} (hB:soundB ops B=true) (inv:PlanInv ops B L0 L listed) :
    ∀(n i:Nat),i < n→i < ops.size→(listed.getD i false=true∨i∈Region.ready .any ops listed)→∀x,x < ops.size→(B.getD i 0).testBit x=true→listed.getD x false=true:=by
 intro n
 induction n with
 | zero=>intro i hi;omega
 | succ n ih=>
  intro i hin his hl x hx hbit
  have h1:=List.all_eq_true.1 hB i (List.mem_range.2 his)
  obtain⟨o,ho⟩:∃o,ops[i]?=some o:=⟨ops[i],Array.getElem?_eq_getElem his⟩
  simp only[ho,Bool.and_eq_true] at h1
  have h2:=List.all_eq_true.1 h1.2 x (List.mem_range.2 hx)
  simp only[hbit,Bool.not_true,Bool.false_or] at h2
  obtain⟨e,he,hb⟩:=Array.any_eq_true'.1 h2
  simp only[Bool.and_eq_true,Bool.or_eq_true,beq_iff_eq] at hb
  have hel:listed.getD e.on false=true:=by
   rcases hl with hl|hl
   ·exact inv.closed i o ho hl e he hb.1
   ·obtain⟨_,o',ho',hall⟩:=mem_ready.1 hl
    have:o'=o:=Option.some.inj (ho'.symm.trans ho)
    subst this
    exact hall e he hb.1
  rcases hb.2 with hb2|hb2
  ·rw[←hb2];exact hel
  ·have hlt:e.on < i:=by
    have:=Array.all_eq_true_iff_forall_mem.1 h1.1 e he
    simp only[hb.1,Bool.not_true,Bool.false_or,decide_eq_true_eq] at this
    exact this
   exact ih e.on (by omega) (by omega) (.inl hel) x hx hb2
theorem zI1 {α:Type} {R:α→α→Prop} {l1 l2:List α} {x:α} (h:(l1++x :: l2).Pairwise R):(l1++l2).Pairwise R∧∀y∈l1,R y x:=by
 rw[List.pairwise_append] at h ⊢
 obtain⟨h1,h2,h3⟩:=h
 refine⟨⟨h1,(List.pairwise_cons.1 h2).2,fun a ha b hb=>h3 a ha b (by simp[hb])⟩,fun y hy=>h3 y hy x (by simp)⟩
theorem zM6 {Fc:Fence} {nf:Nat} (hFc:FcOk Fc) {Q:Exit→Act→World→Prop} {B:Array Nat} {L0:List (Nat × Option (List Nat))} (hsel:Region.noSelect ops=true) (hB:soundB ops B=true) :
    ∀(fuel:Nat) (L:List (Nat × Option (List Nat))) (listed:Array Bool) (a:Act) (w:World),PlanInv ops B L0 L listed→L.length≤fuel →
     wpT P ops (fun a' w'=>Q .normal a' w') L a w→wpAnyIn Fc nf P .any ops Q fuel listed a w:=by
 have hempty:∀(L:List (Nat × Option (List Nat))) (listed:Array Bool) (a:Act) (w:World),PlanInv ops B L0 L listed→Region.ready .any ops listed = []→wpT P ops (fun a' w'=>Q .normal a' w') L a w→Q .normal a w:=by
  intro L listed a w inv hr h
  -- no unlisted operation: else the least one were ready
  have hall:∀n i,i < n→i < ops.size→listed.getD i true=true:=by
   intro n
   induction n with
   | zero=>intro i hi;omega
   | succ n ih=>
    intro i hin his
    cases hc:listed.getD i true with
    | true=>rfl
    | false=>
     exfalso
     have:i∈Region.ready .any ops listed:=by
      obtain⟨o,ho⟩:∃o,ops[i]?=some o:=⟨ops[i],Array.getElem?_eq_getElem his⟩
      refine mem_ready.2 ⟨hc,o,ho,fun e he hb=>?_⟩
      have h1:=List.all_eq_true.1 hB i (List.mem_range.2 his)
      simp only[ho,Bool.and_eq_true] at h1
      have hlt:=Array.all_eq_true_iff_forall_mem.1 h1.1 e he
      simp only[hb,Bool.not_true,Bool.false_or,decide_eq_true_eq] at hlt
      have h2:=ih e.on (by omega) (by omega)
      have hs:e.on < listed.size:=by rw[inv.size];omega
      simp[hs] at h2 ⊢;exact h2
     rw[hr] at this;cases this
  cases L with
  | nil=>exact h
  | cons x L=>
   exfalso
   have hx:=inv.lt x (by simp)
   have h1:=(inv.mem x.1 hx).2 (by simp)
   have h2:=hall (x.1+1) x.1 (by omega) hx
   rw[h1] at h2;cases h2
 intro fuel
 induction fuel with
 | zero=>
  intro L listed a w inv hlen h
  have:L = []:=List.eq_nil_of_length_eq_zero (by omega)
  subst this
  refine⟨?_,h⟩
  refine List.eq_nil_iff_forall_not_mem.2 fun i hi=>?_
  obtain⟨h0,o,ho,_⟩:=mem_ready.1 hi
  have:=(inv.mem i (Array.getElem?_eq_some_iff.1 ho).1).1 h0
  cases this
 | succ fuel ih=>
  intro L listed a w inv hlen h
  refine⟨fun hr=>hempty L listed a w inv hr h,fun i hi=>?_⟩
  obtain⟨h0,oi,hoi,hall⟩:=mem_ready.1 hi
  have his:i < ops.size:=(Array.getElem?_eq_some_iff.1 hoi).1
  have hiL:=(inv.mem i his).1 h0
  obtain⟨y,hy,hyi⟩:=List.mem_map.1 hiL
  obtain⟨L1,L2,rfl⟩:=List.append_of_mem hy
  obtain⟨i',c⟩:=y
  simp only at hyi
  subst hyi
  obtain⟨hp,hpx⟩:=zI1 inv.pair
  have hmapeq:(L1++(i',c) :: L2).map (·.1)=L1.map (·.1)++i' :: L2.map (·.1):=by simp
  have has:=inv.aside;rw[hmapeq] at has
  have hnd:=inv.nodup;rw[hmapeq] at hnd
  obtain⟨has',_⟩:=zI1 has
  obtain⟨hnd',hnd2⟩:=zI1 hnd
  -- nothing ahead of it is waited for
  have hfree:∀x∈L1,x.2=none∧apartB ops x.1 i'=true∧(∀U,c=some U→x.1∈U∧selfish ops x.1=true):=by
   intro x hx
   have hxs:=inv.lt x (by simp[hx])
   have hb:(B.getD i' 0).testBit x.1=false:=by
    cases hb:(B.getD i' 0).testBit x.1 with
    | false=>rfl
    | true=>
     exfalso
     have:=zO9 hB inv (i'+1) i' (by omega) his (.inr hi) x.1 hxs hb
     have h1:=(inv.mem x.1 hxs).2 (by simp only[List.map_append,List.mem_append];exact .inl (List.mem_map.2 ⟨x,hx,rfl⟩))
     rw[zp4 h1] at this;cases this
   have:=hpx x hx
   simp only[pairOk,hb,Bool.false_or,Bool.and_eq_true,Option.isNone_iff_eq_none] at this
   refine⟨this.1.1,this.1.2,fun U hU=>?_⟩
   subst hU
   have h3:=this.2
   simp only[Bool.and_eq_true,List.contains_iff_mem] at h3
   exact h3
  have hL1:L1=(L1.map (·.1)).map (fun i=>(i,none)):=by
   rw[List.map_map]
   conv=>lhs;rw[←List.map_id L1]
   refine List.map_congr_left fun x hx=>?_
   obtain⟨x1,x2⟩:=x
   have:=(hfree _ hx).1
   simp only at this
   subst this;rfl
  -- the plan without it
  have hinv':PlanInv ops B L0 (L1++L2) (listed.setIfInBounds i' true):=by
   refine⟨by simp[inv.size],fun j hj=>?_,fun x hx=>inv.lt x ?_,fun j oj hj hl e he hb=>?_,hp,by simpa using has',fun x hx=>inv.sub x ?_,by simpa using hnd'⟩
   ·by_cases hji:i'=j
    ·subst hji
     have hs:i' < listed.size:=by rw[inv.size];exact his
     constructor
     ·intro hh;simp[hs] at hh
     ·intro hh
      exfalso
      rw[List.pairwise_append] at hnd
      simp only[List.map_append,List.mem_append] at hh
      rcases hh with hh|hh
      ·have:=hnd2 i' hh;simp at this
      ·have:=(List.pairwise_cons.1 hnd.2.1).1 i' hh;simp at this
    ·rw[getD_set_ne true hji,inv.mem j hj,hmapeq]
     simp only[List.map_append,List.mem_append,List.mem_cons]
     constructor
     ·rintro(h|h|h)
      ·exact .inl h
      ·exact absurd h.symm hji
      ·exact .inr h
     ·rintro(h|h)
      ·exact .inl h
      ·exact .inr (.inr h)
   ·rcases List.mem_append.1 hx with h|h <;> simp[h]
   ·by_cases hij:i'=j
    ·subst hij
     have:oj=oi:=Option.some.inj (hj.symm.trans hoi)
     subst this
     exact getD_set_true (hall e he hb)
    ·rw[getD_set_ne false hij] at hl
     exact getD_set_true (inv.closed j oj hj hl e he hb)
   ·rcases List.mem_append.1 hx with h|h <;> simp[h]
  have hlen':(L1++L2).length≤fuel:=by simp at hlen ⊢;omega
  rw[hL1,zR2] at h
  cases c with
  | none=>
   have h1:=moveR (P:=P) (i:=i') hsel (L1.map (·.1)) (wpT P ops (fun a' w'=>Q .normal a' w') L2) a w (fun x hx=>by
    obtain⟨y,hy,rfl⟩:=List.mem_map.1 hx;exact(hfree y hy).2.1) h
   refine zS2 (Q':=Q) hFc (fun a' hh=>?_) h1
   rw[←zR2,←hL1] at hh
   exact ih _ _ a' w hinv' hlen' hh
  | some U=>
   have h1:=moveE (P:=P) (i:=i') hsel _ (L1.map (·.1)) rfl (wpT P ops (fun a' w'=>Q .normal a' w') L2) a w
    (fun x hx=>by obtain⟨y,hy,rfl⟩:=List.mem_map.1 hx;exact⟨(hfree y hy).2.1,((hfree y hy).2.2 U rfl).2⟩)
    (by
     have h2:(L1.map (·.1)).Pairwise fun x y=>asideOk ops L0 x y=true:=(List.pairwise_append.1 has).1
     refine h2.imp_of_mem fun {x y} hx hy hxy=>?_
     have hcx:x∈U:=by obtain⟨z,hz,rfl⟩:=List.mem_map.1 hx;exact((hfree z hz).2.2 U rfl).1
     have hcy:y∈U:=by obtain⟨z,hz,rfl⟩:=List.mem_map.1 hy;exact((hfree z hz).2.2 U rfl).1
     simp only[asideOk,Bool.or_eq_true,List.all_eq_true] at hxy
     rcases hxy with hxy|hxy
     ·exact hxy
     ·have:=hxy (i',some U) (inv.sub _ (by simp))
      simp[hcx,hcy] at this)
    (ze5 (fun a1 w1 hh=>zw1 (fun a2 w2 hh2=>⟨fun j hj=>by
     obtain⟨z,hz,rfl⟩:=List.mem_map.1 hj;exact hh2.1 _ ((hfree z hz).2.2 U rfl).1,hh2.2⟩) hh) _ a w h)
   refine zt3 hFc (zw1 (fun a' w' hh=>?_) h1)
   rw[←zR2,←hL1] at hh
   exact ih _ _ a' w' hinv' hlen' hh
theorem za6 {Fc:Fence} {nf:Nat} (hFc:FcOk Fc) {id:Nat} {Q:Exit→Act→World→Prop} {a:Act} {w:World} {l:List Oper} (L:List (Nat × Option (List Nat))) (hm:P.follows .mixedOrders=true) (hB:okPlan l.toArray L=true)
    (h:wpT P l.toArray (fun a' w'=>Q .normal a' w') L a w.drew):(Code.region id l.toArray true).wpIn Fc nf P Q a w:=by
 simp only[okPlan,Bool.and_eq_true,beq_iff_eq] at hB
 obtain⟨⟨⟨⟨⟨⟨⟨⟨h1,h2⟩,_⟩,h4⟩,h5⟩,h6⟩,h7⟩,h8⟩,h9⟩:=hB
 refine wpIn_region_any hm (zM6 hFc (B:=Region.before l.toArray) (L0:=L) h1 h2 _ L _ a _ ?_ (by omega) h)
 refine⟨by simp,fun i hi=>⟨fun _=>?_,fun _=>?_⟩,fun x hx=>?_,fun j oj _ hl=>?_,zV h7,zV h8,fun _ hx=>hx,zV h5⟩
 ·have:=List.all_eq_true.1 h4 i (List.mem_range.2 hi)
  simpa using this
 ·simp at hi ⊢;simp[hi]
 ·have:=List.all_eq_true.1 h6 x hx;simpa using this
 ·exfalso
  rcases Nat.lt_or_ge j l.length with h|h
  ·simp[h] at hl
  ·simp[Nat.not_lt.2 h] at hl
abbrev Plan:=List (Nat × Option (List Nat))
def headsOf:List Plan→Plan
 | []=>[]
 | [] :: ps=>headsOf ps
 | (e :: _) :: ps=>if (headsOf ps).contains e then headsOf ps else e :: headsOf ps
def tailsOf (e:Nat × Option (List Nat)):List Plan→List Plan
 | []=>[]
 | [] :: ps=>tailsOf e ps
 | (x :: l) :: ps=>if x == e then l :: tailsOf e ps else tailsOf e ps
def stepM (P:Program) (ops:Array Oper) (e:Nat × Option (List Nat)) (K:Act→World→Prop) (a:Act) (w:World):Prop:=
 match e.2 with
 | none=>stOp P ops w e.1 (fun a'=>K a' w) a
 | some U=>effOp P ops e.1 (fun a' w'=>(∀j∈U,again P ops j a' w')∧K a' w') a w
def wpM (P:Program) (ops:Array Oper) (Q:Act→World→Prop):Nat→List Plan→Act→World→Prop
 | 0,_,a,w=>Q a w
 | n+1,ps,a,w=>∀e∈headsOf ps,stepM P ops e (fun a' w'=>wpM P ops Q n (tailsOf e ps) a' w') a w
def cov (ops:Array Oper) (B:Array Nat):Nat→List Nat→List Plan→Bool
 | 0,D,_=>(List.range ops.size).all fun x=>D.contains x
 | n+1,D,ps=>
  !(headsOf ps).isEmpty && ((headsOf ps).all fun e=>!D.contains e.1 && decide (e.1 < ops.size) && cov ops B n (e.1 :: D) (tailsOf e ps)) &&
  (((headsOf ps).length == 1 && (headsOf ps).all fun e=>e.2.isNone) ||
   (((headsOf ps).all fun e=>e.2.isSome) && (List.range ops.size).all fun x=>D.contains x || (headsOf ps).any (fun e=>e.1 == x) || (List.range ops.size).any fun y=>(B.getD x 0).testBit y && !D.contains y))
def pairM (ops:Array Oper) (B:Array Nat) (x y:Nat × Option (List Nat)):Bool:=x.2.isSome || pairOk ops B x y
def asidesOk (ops:Array Oper) (ps:List Plan) (x y:Nat):Bool:=aside ops y x || ps.all fun L=>L.all fun z=>match z.2 with|some U=>!(U.contains x && U.contains y)|none=>true
def okPlans (ops:Array Oper) (ps:List Plan):Bool:=
 let B:=Region.before ops
 Region.noSelect ops && soundB ops B && (ps.all fun L=>pairwiseB (pairM ops B) L && pairwiseB (fun x y=>asidesOk ops ps x y) (L.map (·.1))) && cov ops B ops.size [] ps
theorem zZ {e:Nat × Option (List Nat)}:∀{ps:List Plan},e∈headsOf ps→∃l,e :: l∈ps
 | [],h=>by cases h
 | [] :: ps,h=>by
  obtain⟨l,hl⟩:=zZ (ps:=ps) h
  exact⟨l,by simp[hl]⟩
 | (x :: l) :: ps,h=>by
  unfold headsOf at h
  split at h
  ·obtain⟨l',hl⟩:=zZ (ps:=ps) h
   exact⟨l',by simp[hl]⟩
  ·rcases List.mem_cons.1 h with rfl|h
   ·exact⟨l,by simp⟩
   ·obtain⟨l',hl⟩:=zZ (ps:=ps) h
    exact⟨l',by simp[hl]⟩
theorem zM {e:Nat × Option (List Nat)} {q:Plan}:∀{ps:List Plan},q∈tailsOf e ps→e :: q∈ps
 | [],h=>by cases h
 | [] :: ps,h=>by simp[zM (ps:=ps) h]
 | (x :: l) :: ps,h=>by
  unfold tailsOf at h
  split at h
  ·rename_i hx
   rw[beq_iff_eq] at hx
   subst hx
   rcases List.mem_cons.1 h with rfl|h
   ·simp
   ·simp[zM (ps:=ps) h]
  ·simp[zM (ps:=ps) h]
theorem zj1 {e:Nat × Option (List Nat)} {q:Plan}:∀{ps:List Plan},e :: q∈ps→q∈tailsOf e ps
 | [],h=>by cases h
 | [] :: ps,h=>by
  rcases List.mem_cons.1 h with h|h
  ·cases h
  ·exact zj1 (ps:=ps) h
 | (x :: l) :: ps,h=>by
  unfold tailsOf
  rcases List.mem_cons.1 h with h|h
  ·injection h with h1 h2
   subst h1;subst h2
   rw[if_pos (by simp)]
   simp
  ·split
   ·simp[zj1 (ps:=ps) h]
   ·exact zj1 (ps:=ps) h
structure TreeInv (ops:Array Oper) (B:Array Nat) (ps0:List Plan) (listed:Array Bool) (rs D:List Nat) (n:Nat) (ps:List Plan):Prop where
 size:listed.size=ops.size
 closed:∀j oj,ops[j]?=some oj→listed.getD j false=true→∀e∈oj.after,Region.binds .any e=true→listed.getD e.on false=true
 mem:∀i,i < ops.size→(listed.getD i true=false↔(i∈rs∨i∉D))
 rsD:∀x∈rs,x∈D∧x < ops.size
 nodup:rs.Pairwise fun x y=>x≠y
 cov:cov ops B n D ps=true
 pair:∀p∈ps,(rs.map (fun i=>((i,none):Nat × Option (List Nat)))++p).Pairwise fun x y=>pairM ops B x y=true
 aside:∀p∈ps,(rs++p.map (·.1)).Pairwise fun x y=>asidesOk ops ps0 x y=true
 sub:∀p∈ps,∀e∈p,∃q∈ps0,e∈q
 pairR:rs.Pairwise fun x y=>pairM ops B (x,none) (y,none)=true
 asideR:rs.Pairwise fun x y=>asidesOk ops ps0 x y=true
theorem zH8 {B:Array Nat} {ps0 ps:List Plan} {listed:Array Bool} {rs D:List Nat} {n:Nat} (hB:soundB ops B=true) (inv:TreeInv ops B ps0 listed rs D n ps) :
    ∀(n i:Nat),i < n→i < ops.size→(listed.getD i false=true∨i∈Region.ready .any ops listed)→∀x,x < ops.size→(B.getD i 0).testBit x=true→listed.getD x false=true:=by
 intro n
 induction n with
 | zero=>intro i hi;omega
 | succ n ih=>
  intro i hin his hl x hx hbit
  have h1:=List.all_eq_true.1 hB i (List.mem_range.2 his)
  obtain⟨o,ho⟩:∃o,ops[i]?=some o:=⟨ops[i],Array.getElem?_eq_getElem his⟩
  simp only[ho,Bool.and_eq_true] at h1
  have h2:=List.all_eq_true.1 h1.2 x (List.mem_range.2 hx)
  simp only[hbit,Bool.not_true,Bool.false_or] at h2
  obtain⟨e,he,hb⟩:=Array.any_eq_true'.1 h2
  simp only[Bool.and_eq_true,Bool.or_eq_true,beq_iff_eq] at hb
  have hel:listed.getD e.on false=true:=by
   rcases hl with hl|hl
   ·exact inv.closed i o ho hl e he hb.1
   ·obtain⟨_,o',ho',hall⟩:=mem_ready.1 hl
    have:o'=o:=Option.some.inj (ho'.symm.trans ho)
    subst this
    exact hall e he hb.1
  rcases hb.2 with hb2|hb2
  ·rw[←hb2];exact hel
  ·have hlt:e.on < i:=by
    have:=Array.all_eq_true_iff_forall_mem.1 h1.1 e he
    simp only[hb.1,Bool.not_true,Bool.false_or,decide_eq_true_eq] at this
    exact this
   exact ih e.on (by omega) (by omega) (.inl hel) x hx hb2
theorem zx4 {listed:Array Bool} {i:Nat} {oi:Oper} (hoi:ops[i]?=some oi) (hall:∀e∈oi.after,Region.binds .any e=true→listed.getD e.on false=true)
    (closed:∀j oj,ops[j]?=some oj→listed.getD j false=true→∀e∈oj.after,Region.binds .any e=true→listed.getD e.on false=true) :
    ∀j oj,ops[j]?=some oj→(listed.setIfInBounds i true).getD j false=true→∀e∈oj.after,Region.binds .any e=true→(listed.setIfInBounds i true).getD e.on false=true:=by
 intro j oj hj hl e he hb
 by_cases hij:i=j
 ·subst hij
  have:oj=oi:=Option.some.inj (hj.symm.trans hoi)
  subst this
  exact getD_set_true (hall e he hb)
 ·rw[getD_set_ne false hij] at hl
  exact getD_set_true (closed j oj hj hl e he hb)
theorem rd_snoc {K:Act→World→Prop} (l:List Nat) (r:Nat) (a:Act) (w:World):rd P ops (l++[r]) K a w=rd P ops l (fun a w=>stOp P ops w r (fun a'=>K a' w) a) a w:=by
 rw[zH1];rfl
theorem zm10 {B:Array Nat} {ps0 ps:List Plan} {listed:Array Bool} {rs D:List Nat} {n r:Nat} (inv:TreeInv ops B ps0 listed rs D (n+1) ps) (hr:headsOf ps = [(r,none)]) :
    TreeInv ops B ps0 listed (rs++[r]) (r :: D) n (tailsOf (r,none) ps):=by
 have hc:=inv.cov
 simp only[cov,hr,Bool.and_eq_true,List.all_cons,List.all_nil,Bool.and_true,Bool.not_eq_true',decide_eq_true_eq] at hc
 obtain⟨⟨_,⟨h1,h2⟩,h3⟩,_⟩:=hc
 have hnD:r∉D:=by simpa using h1
 obtain⟨l0,hl0⟩:=zZ (e:=(r,none)) (ps:=ps) (by rw[hr];simp)
 have hp0:=inv.pair _ hl0
 have ha0:=inv.aside _ hl0
 refine⟨inv.size,inv.closed,fun i hi=>?_,fun x hx=>?_, ?_,h3,fun p hp=>?_,fun p hp=>?_,fun p hp e he=>?_, ?_, ?_⟩
 ·rw[inv.mem i hi]
  simp only[List.mem_append,List.mem_cons,List.not_mem_nil,or_false]
  constructor
  ·rintro(h|h)
   ·exact .inl (.inl h)
   ·by_cases hir:i=r
    ·exact .inl (.inr hir)
    ·exact .inr (fun hh=>by rcases hh with hh|hh;exact hir hh;exact h hh)
  ·rintro((h|h)|h)
   ·exact .inl h
   ·subst h;exact .inr hnD
   ·exact .inr fun hh=>h (.inr hh)
 ·rcases List.mem_append.1 hx with h|h
  ·have:=inv.rsD x h;exact⟨by simp[this.1],this.2⟩
  ·have:x=r:=by simpa using h
   subst this;exact⟨by simp,h2⟩
 ·rw[List.pairwise_append]
  exact⟨inv.nodup,by simp,fun x hx y hy=>by
   have:y=r:=by simpa using hy
   subst this
   rintro rfl
   exact hnD (inv.rsD x hx).1⟩
 ·have:=inv.pair _ (zM hp)
  simpa using this
 ·have:=inv.aside _ (zM hp)
  simpa using this
 ·exact inv.sub _ (zM hp) e (by simp[he])
 ·rw[List.pairwise_append] at hp0 ⊢
  refine⟨inv.pairR,by simp,fun x hx y hy=>?_⟩
  have:y=r:=by simpa using hy
  subst this
  exact hp0.2.2 (x,none) (List.mem_map.2 ⟨x,hx,rfl⟩) (y,none) (by simp)
 ·rw[List.pairwise_append] at ha0 ⊢
  refine⟨inv.asideR,by simp,fun x hx y hy=>?_⟩
  have:y=r:=by simpa using hy
  subst this
  exact ha0.2.2 x hx y (by simp)
theorem zN6 {Fc:Fence} {nf:Nat} (hFc:FcOk Fc) {Q:Exit→Act→World→Prop} {B:Array Nat} {ps0:List Plan} (hsel:Region.noSelect ops=true) (hB:soundB ops B=true) :
    ∀(fuel n:Nat) (ps:List Plan) (rs D:List Nat) (listed:Array Bool) (a:Act) (w:World),TreeInv ops B ps0 listed rs D n ps→rs.length+n=fuel →
     rd P ops rs (wpM P ops (fun a' w'=>Q .normal a' w') n ps) a w→wpAnyIn Fc nf P .any ops Q fuel listed a w:=by
 have hall0:∀(listed:Array Bool),listed.size=ops.size→Region.ready .any ops listed = []→∀n i,i < n→i < ops.size→listed.getD i true=true:=by
  intro listed hsz hr n
  induction n with
  | zero=>intro i hi;omega
  | succ n ih=>
   intro i hin his
   cases hc:listed.getD i true with
   | true=>rfl
   | false=>
    exfalso
    have:i∈Region.ready .any ops listed:=by
     obtain⟨o,ho⟩:∃o,ops[i]?=some o:=⟨ops[i],Array.getElem?_eq_getElem his⟩
     refine mem_ready.2 ⟨hc,o,ho,fun e he hb=>?_⟩
     have h1:=List.all_eq_true.1 hB i (List.mem_range.2 his)
     simp only[ho,Bool.and_eq_true] at h1
     have hlt:=Array.all_eq_true_iff_forall_mem.1 h1.1 e he
     simp only[hb,Bool.not_true,Bool.false_or,decide_eq_true_eq] at hlt
     have h2:=ih e.on (by omega) (by omega)
     have hs:e.on < listed.size:=by rw[hsz];omega
     simp[hs] at h2 ⊢;exact h2
    rw[hr] at this;cases this
 intro fuel
 induction fuel with
 | zero=>
  intro n ps rs D listed a w inv hlen h
  have hrs:rs = []:=List.eq_nil_of_length_eq_zero (by omega)
  have hn:n=0:=by omega
  subst hrs;subst hn
  refine⟨?_,h⟩
  refine List.eq_nil_iff_forall_not_mem.2 fun i hi=>?_
  obtain⟨h0,o,ho,_⟩:=mem_ready.1 hi
  have his:=(Array.getElem?_eq_some_iff.1 ho).1
  have hc:=inv.cov
  simp only[cov,List.all_eq_true,List.mem_range,List.contains_iff_mem] at hc
  rcases(inv.mem i his).1 h0 with h|h
  ·cases h
  ·exact h (hc i his)
 | succ fuel ih=>
  -- the number of levels that are left
  intro n
  induction n with
  | zero=>
   intro ps rs D listed a w inv hlen h
   have hc:=inv.cov
   simp only[cov,List.all_eq_true,List.mem_range,List.contains_iff_mem] at hc
   refine⟨fun hr=>?_,fun i hi=>?_⟩
   ·exfalso
    cases rs with
    | nil=>simp at hlen
    | cons x l=>
     have hx:=inv.rsD x (by simp)
     have h1:=(inv.mem x hx.2).2 (.inl (by simp))
     have:=hall0 listed inv.size hr (x+1) x (by omega) hx.2
     rw[h1] at this;cases this
   ·obtain⟨h0,oi,hoi,hall⟩:=mem_ready.1 hi
    have his:i < ops.size:=(Array.getElem?_eq_some_iff.1 hoi).1
    have hirs:i∈rs:=by
     rcases(inv.mem i his).1 h0 with h|h
     ·exact h
     ·exact absurd (hc i his) h
    obtain⟨l1,l2,rfl⟩:=List.append_of_mem hirs
    have hfree:∀x∈l1,apartB ops x i=true:=by
     intro x hx
     have hp:=(zI1 inv.pairR).2 x hx
     have hxs:=(inv.rsD x (by simp[hx])).2
     have hb:(B.getD i 0).testBit x=false:=by
      cases hb:(B.getD i 0).testBit x with
      | false=>rfl
      | true=>
       exfalso
       have:=zH8 hB inv (i+1) i (by omega) his (.inr hi) x hxs hb
       have h1:=(inv.mem x hxs).2 (.inl (by simp[hx]))
       rw[zp4 h1] at this;cases this
     simp only[pairM,Option.isSome_none,pairOk,hb,Bool.false_or,Bool.and_eq_true] at hp
     exact hp.1.2
    have h':rd P ops l1 (fun a w=>stOp P ops w i (fun a'=>rd P ops l2 (wpM P ops (fun a' w'=>Q .normal a' w') 0 ps) a' w) a) a w:=by
     rw[show l1++i :: l2=l1++([i]++l2) from rfl,zH1] at h
     exact h
    have h2:=moveR hsel l1 _ a w hfree h'
    refine zS2 (Q':=Q) hFc (fun a' hh=>?_) h2
    have hh':rd P ops (l1++l2) (wpM P ops (fun a' w'=>Q .normal a' w') 0 ps) a' w:=by rw[zH1];exact hh
    obtain⟨hnd,hnd2⟩:=zI1 inv.nodup
    have hnd3:∀y∈l2,i≠y:=(List.pairwise_cons.1 (List.pairwise_append.1 inv.nodup).2.1).1
    refine ih 0 ps (l1++l2) D _ a' w ⟨by simp[inv.size],zx4 hoi hall inv.closed,fun j hj=>?_,fun x hx=>inv.rsD x ?_,hnd,inv.cov,fun p hp=>?_,fun p hp=>?_,inv.sub,(zI1 inv.pairR).1,(zI1 inv.asideR).1⟩ ?_ hh'
    ·by_cases hij:i=j
     ·subst hij
      have hs:i < listed.size:=by rw[inv.size];exact his
      constructor
      ·intro hh;simp[hs] at hh
      ·intro hh
       exfalso
       rcases hh with hh|hh
       ·rcases List.mem_append.1 hh with hh|hh
        ·exact hnd2 i hh rfl
        ·exact hnd3 i hh rfl
       ·exact hh (hc i his)
     ·rw[getD_set_ne true hij,inv.mem j hj]
      simp only[List.mem_append,List.mem_cons]
      constructor
      ·rintro((h|h|h)|h)
       ·exact .inl (.inl h)
       ·exact absurd h.symm hij
       ·exact .inl (.inr h)
       ·exact .inr h
      ·rintro((h|h)|h)
       ·exact .inl (.inl h)
       ·exact .inl (.inr (.inr h))
       ·exact .inr h
    ·rcases List.mem_append.1 hx with h|h <;> simp[h]
    ·have:=inv.pair p hp
     simp only[List.map_append,List.map_cons,List.append_assoc,List.cons_append] at this ⊢
     exact(zI1 this).1
    ·have:=inv.aside p hp
     simp only[List.append_assoc,List.cons_append] at this ⊢
     exact(zI1 this).1
    ·simp at hlen ⊢;omega
  | succ n ihn=>
   intro ps rs D listed a w inv hlen h
   have hc:=inv.cov
   simp only[cov,Bool.and_eq_true,Bool.or_eq_true,Bool.not_eq_true'] at hc
   obtain⟨⟨hne,hheads⟩,hkind⟩:=hc
   rcases hkind with hkind|hkind
   ·-- one reader
    obtain⟨hl1,hn1⟩:=hkind
    rw[beq_iff_eq] at hl1
    obtain⟨e,he⟩:=List.length_eq_one_iff.1 hl1
    rw[he] at hn1
    simp only[List.all_cons,List.all_nil,Bool.and_true,Option.isNone_iff_eq_none] at hn1
    obtain⟨r,c⟩:=e
    simp only at hn1
    subst hn1
    refine ihn (tailsOf (r,none) ps) (rs++[r]) (r :: D) listed a w (zm10 inv he) (by simp;omega) ?_
    rw[rd_snoc]
    refine ze5 (fun a1 w1 hh=>?_) rs a w h
    have:=hh (r,none) (by rw[he];simp)
    exact this
   ·obtain⟨hsome,hcov⟩:=hkind
    refine⟨fun hr=>?_,fun i hi=>?_⟩
    ·exfalso
     obtain⟨e,he⟩:∃e,e∈headsOf ps:=by
      cases hh:headsOf ps with
      | nil=>rw[hh] at hne;simp at hne
      | cons x l=>exact⟨x,by simp⟩
     have h1:=List.all_eq_true.1 hheads e he
     simp only[Bool.and_eq_true,Bool.not_eq_true',decide_eq_true_eq] at h1
     have h2:=(inv.mem e.1 h1.1.2).2 (.inr (by simpa using h1.1.1))
     have:=hall0 listed inv.size hr (e.1+1) e.1 (by omega) h1.1.2
     rw[h2] at this;cases this
    ·obtain⟨h0,oi,hoi,hall⟩:=mem_ready.1 hi
     have his:i < ops.size:=(Array.getElem?_eq_some_iff.1 hoi).1
     have hnb:∀x,x < ops.size→listed.getD x true=false→(B.getD i 0).testBit x=false:=by
      intro x hxs hun
      cases hb:(B.getD i 0).testBit x with
      | false=>rfl
      | true=>
       exfalso
       have:=zH8 hB inv (i+1) i (by omega) his (.inr hi) x hxs hb
       rw[zp4 hun] at this;cases this
     rcases(inv.mem i his).1 h0 with hirs|hiD
     ·-- a pending reader
      obtain⟨l1,l2,rfl⟩:=List.append_of_mem hirs
      have hfree:∀x∈l1,apartB ops x i=true:=by
       intro x hx
       have hp:=(zI1 inv.pairR).2 x hx
       have hxs:=(inv.rsD x (by simp[hx])).2
       have hb:=hnb x hxs ((inv.mem x hxs).2 (.inl (by simp[hx])))
       simp only[pairM,Option.isSome_none,pairOk,hb,Bool.false_or,Bool.and_eq_true] at hp
       exact hp.1.2
      have h':rd P ops l1 (fun a w=>stOp P ops w i (fun a'=>rd P ops l2 (wpM P ops (fun a' w'=>Q .normal a' w') (n+1) ps) a' w) a) a w:=by
       rw[show l1++i :: l2=l1++([i]++l2) from rfl,zH1] at h
       exact h
      have h2:=moveR hsel l1 _ a w hfree h'
      refine zS2 (Q':=Q) hFc (fun a' hh=>?_) h2
      have hh':rd P ops (l1++l2) (wpM P ops (fun a' w'=>Q .normal a' w') (n+1) ps) a' w:=by rw[zH1];exact hh
      obtain⟨hnd,hnd2⟩:=zI1 inv.nodup
      have hnd3:∀y∈l2,i≠y:=(List.pairwise_cons.1 (List.pairwise_append.1 inv.nodup).2.1).1
      have hiD:i∈D:=(inv.rsD i (by simp)).1
      refine ih (n+1) ps (l1++l2) D _ a' w ⟨by simp[inv.size],zx4 hoi hall inv.closed,fun j hj=>?_,fun x hx=>inv.rsD x ?_,hnd,inv.cov,fun p hp=>?_,fun p hp=>?_,inv.sub,(zI1 inv.pairR).1,(zI1 inv.asideR).1⟩ ?_ hh'
      ·by_cases hij:i=j
       ·subst hij
        have hs:i < listed.size:=by rw[inv.size];exact his
        constructor
        ·intro hh;simp[hs] at hh
        ·intro hh
         exfalso
         rcases hh with hh|hh
         ·rcases List.mem_append.1 hh with hh|hh
          ·exact hnd2 i hh rfl
          ·exact hnd3 i hh rfl
         ·exact hh hiD
       ·rw[getD_set_ne true hij,inv.mem j hj]
        simp only[List.mem_append,List.mem_cons]
        constructor
        ·rintro((h|h|h)|h)
         ·exact .inl (.inl h)
         ·exact absurd h.symm hij
         ·exact .inl (.inr h)
         ·exact .inr h
        ·rintro((h|h)|h)
         ·exact .inl (.inl h)
         ·exact .inl (.inr (.inr h))
         ·exact .inr h
      ·rcases List.mem_append.1 hx with h|h <;> simp[h]
      ·have:=inv.pair p hp
       simp only[List.map_append,List.map_cons,List.append_assoc,List.cons_append] at this ⊢
       exact(zI1 this).1
      ·have:=inv.aside p hp
       simp only[List.append_assoc,List.cons_append] at this ⊢
       exact(zI1 this).1
      ·simp at hlen ⊢;omega
     ·-- an effect at the root
      have h1:=List.all_eq_true.1 hcov i (List.mem_range.2 his)
      simp only[Bool.or_eq_true,List.contains_iff_mem] at h1
      have hex:∃e∈headsOf ps,e.1=i:=by
       rcases h1 with(h1|h1)|h1
       ·exact absurd h1 hiD
       ·obtain⟨e,he,hei⟩:=List.any_eq_true.1 h1
        exact⟨e,he,by simpa using hei⟩
       ·exfalso
        obtain⟨y,hy,hby⟩:=List.any_eq_true.1 h1
        simp only[Bool.and_eq_true,Bool.not_eq_true'] at hby
        have hys:=List.mem_range.1 hy
        have hyD:y∉D:=by simpa using hby.2
        have:=hnb y hys ((inv.mem y hys).2 (.inr hyD))
        rw[hby.1] at this;cases this
      obtain⟨⟨i',c⟩,hei,rfl⟩:=hex
      have hcs:=List.all_eq_true.1 hsome _ hei
      obtain⟨U,hU⟩:=Option.isSome_iff_exists.1 hcs
      simp only at hU
      subst hU
      have hcove:=List.all_eq_true.1 hheads _ hei
      simp only[Bool.and_eq_true] at hcove
      obtain⟨l0,hl0⟩:=zZ hei
      have hp0:=List.pairwise_append.1 (inv.pair _ hl0)
      have ha0:=List.pairwise_append.1 (inv.aside _ hl0)
      have hfree:∀x∈rs,apartB ops x i'=true∧x∈U∧selfish ops x=true:=by
       intro x hx
       have hp:=hp0.2.2 (x,none) (List.mem_map.2 ⟨x,hx,rfl⟩) (i',some U) (by simp)
       have hxs:=(inv.rsD x hx).2
       have hb:=hnb x hxs ((inv.mem x hxs).2 (.inl hx))
       simp only[pairM,Option.isSome_none,pairOk,hb,Bool.false_or,Bool.and_eq_true,List.contains_iff_mem] at hp
       exact⟨hp.1.2,hp.2⟩
      have h2:=moveE (P:=P) (i:=i') hsel _ rs rfl (wpM P ops (fun a' w'=>Q .normal a' w') n (tailsOf (i',some U) ps)) a w
       (fun x hx=>⟨(hfree x hx).1,(hfree x hx).2.2⟩)
       (inv.asideR.imp_of_mem fun {x y} hx hy hxy=>by
        have hcx:=(hfree x hx).2.1
        have hcy:=(hfree y hy).2.1
        simp only[asidesOk,Bool.or_eq_true,List.all_eq_true] at hxy
        rcases hxy with hxy|hxy
        ·exact hxy
        ·obtain⟨q,hq,hqe⟩:=inv.sub _ hl0 (i',some U) (by simp)
         have:=hxy q hq _ hqe
         simp[hcx,hcy] at this)
       (ze5 (fun a1 w1 hh=>by
        have h3:=hh (i',some U) hei
        exact zw1 (fun a2 w2 hh2=>⟨fun j hj=>hh2.1 j (hfree j hj).2.1,hh2.2⟩) h3) rs a w h)
      refine zt3 hFc (zw1 (fun a' w' hh=>?_) h2)
      refine ih n (tailsOf (i',some U) ps) rs (i' :: D) _ a' w' ⟨by simp[inv.size],zx4 hoi hall inv.closed,fun j hj=>?_,fun x hx=>⟨by simp[(inv.rsD x hx).1],(inv.rsD x hx).2⟩,inv.nodup,hcove.2,fun p hp=>?_,fun p hp=>?_,fun p hp e he=>inv.sub _ (zM hp) e (by simp[he]),inv.pairR,inv.asideR⟩ (by omega) hh
      ·by_cases hij:i'=j
       ·subst hij
        have hs:i' < listed.size:=by rw[inv.size];exact his
        constructor
        ·intro hh;simp[hs] at hh
        ·intro hh
         exfalso
         rcases hh with hh|hh
         ·exact hiD (inv.rsD i' hh).1
         ·exact hh (by simp)
       ·rw[getD_set_ne true hij,inv.mem j hj]
        simp only[List.mem_cons]
        constructor
        ·rintro(h|h)
         ·exact .inl h
         ·exact .inr fun hh=>by
           rcases hh with hh|hh
           ·exact hij hh.symm
           ·exact h hh
        ·rintro(h|h)
         ·exact .inl h
         ·exact .inr fun hh=>h (.inr hh)
      ·have:=inv.pair _ (zM hp)
       exact(zI1 this).1
      ·have:=inv.aside _ (zM hp)
       simp only[List.map_cons] at this
       exact(zI1 this).1
theorem zH3 {Fc:Fence} {nf:Nat} (hFc:FcOk Fc) {id:Nat} {Q:Exit→Act→World→Prop} {a:Act} {w:World} {l:List Oper} (ps:List Plan) (hm:P.follows .mixedOrders=true) (hB:okPlans l.toArray ps=true)
    (h:wpM P l.toArray (fun a' w'=>Q .normal a' w') l.length ps a w.drew):(Code.region id l.toArray true).wpIn Fc nf P Q a w:=by
 simp only[okPlans,Bool.and_eq_true] at hB
 obtain⟨⟨⟨h1,h2⟩,h3⟩,h4⟩:=hB
 have h3':=List.all_eq_true.1 h3
 refine wpIn_region_any hm (zN6 hFc (B:=Region.before l.toArray) (ps0:=ps) h1 h2 l.toArray.size l.length ps [] [] _ a _ ?_ (by simp) h)
 refine⟨by simp,fun j oj _ hl=>?_,fun i hi=>?_,fun _ hx=>(by cases hx),by simp,by simpa using h4,fun p hp=>?_,fun p hp=>?_,fun p hp e he=>⟨p,hp,he⟩,by simp,by simp⟩
 ·exfalso
  rcases Nat.lt_or_ge j l.length with h|h
  ·simp[h] at hl
  ·simp[Nat.not_lt.2 h] at hl
 ·simp at hi ⊢;simp[hi]
 ·have:=h3' p hp
  simp only[Bool.and_eq_true] at this
  simpa using zV this.1
 ·have:=h3' p hp
  simp only[Bool.and_eq_true] at this
  simpa using zV this.2
theorem zD7 {id:Nat} {Q:Exit→Act→World→Prop} {a:Act} {w:World} {l:List Oper} (ps:List Plan) (hm:P.follows .mixedOrders=true) (hB:okPlans l.toArray ps=true)
    (h:wpM P l.toArray (fun a' w'=>Q .normal a' w') l.length ps a w.drew):(Code.region id l.toArray true).wp P Q a w:=(wpIn_wide (n:=0)).1 (zH3 (.inl rfl) ps hm hB h)
theorem wpM_nil {Q:Act→World→Prop} {ps:List Plan} {a:Act} {w:World} (h:Q a w):wpM P ops Q 0 ps a w:=h
theorem wpM_r {Q:Act→World→Prop} {n i:Nat} {ps ps':List Plan} {a:Act} {w:World} {o:Oper} (hh:headsOf ps = [(i,none)]) (ht:tailsOf (i,none) ps=ps') (ho:ops[i]?=some o)
    (h:∀K:Act→Prop,(∀a',wpM P ops Q n ps' a' w→K a')→if Region.wanted o (yielded ops a.tmps) then o.still P a w K else K (a.put o.dst undef)):wpM P ops Q (n+1) ps a w:=by
 intro e he
 rw[hh] at he
 have:e=(i,none):=by simpa using he
 subst this
 subst ht
 simp only[stepM]
 unfold stOp
 simp only[ho]
 exact h _ fun _ h=>h
theorem wpM_e {Q:Act→World→Prop} {n i:Nat} {U:List Nat} {ps ps':List Plan} {a:Act} {w:World} {o:Oper} (hh:headsOf ps = [(i,some U)]) (ht:tailsOf (i,some U) ps=ps') (ho:ops[i]?=some o)
    (h:∀K:Act→World→Prop,(∀a' w',(∀j∈U,again P ops j a' w')→wpM P ops Q n ps' a' w'→K a' w')→if Region.wanted o (yielded ops a.tmps) then effO P o a w K else K (a.put o.dst undef) w):wpM P ops Q (n+1) ps a w:=by
 intro e he
 rw[hh] at he
 have:e=(i,some U):=by simpa using he
 subst this
 subst ht
 simp only[stepM]
 unfold effOp
 simp only[ho]
 exact h _ fun _ _ h1 h2=>⟨h1,h2⟩
theorem wpM_two {Q:Act→World→Prop} {n i j:Nat} {U V:List Nat} {ps ps1 ps2:List Plan} {a:Act} {w:World} (hh:headsOf ps = [(i,some U),(j,some V)]) (h1:tailsOf (i,some U) ps=ps1) (h2:tailsOf (j,some V) ps=ps2)
    (hi:wpM P ops Q (n+1) (ps1.map ((i,some U) :: ·)) a w) (hj:wpM P ops Q (n+1) (ps2.map ((j,some V) :: ·)) a w):wpM P ops Q (n+1) ps a w:=by
 have key:∀(e:Nat × Option (List Nat)) (l:List Plan),tailsOf e (l.map (e :: ·))=l:=by
  intro e l
  induction l with
  | nil=>rfl
  | cons x l ih=>simp only[List.map_cons,tailsOf,beq_self_eq_true,if_true,ih]
 have keyh:∀(e:Nat × Option (List Nat)) (l:List Plan),l≠[]→e∈headsOf (l.map (e :: ·)):=by
  intro e l hl
  cases l with
  | nil=>exact absurd rfl hl
  | cons x l=>
   simp only[List.map_cons,headsOf]
   split
   ·rename_i hc;simpa using hc
   ·simp
 intro e he
 rw[hh] at he
 rcases List.mem_cons.1 he with rfl|he
 ·obtain⟨l,hl⟩:=zZ (ps:=ps) (e:=(i,some U)) (by rw[hh];simp)
  have hne:ps1≠[]:=by rw[←h1];exact List.ne_nil_of_mem (zj1 hl)
  have:=hi (i,some U) (keyh _ _ hne)
  rw[key] at this
  rw[h1];exact this
 ·have:e=(j,some V):=by simpa using he
  subst this
  obtain⟨l,hl⟩:=zZ (ps:=ps) (e:=(j,some V)) (by rw[hh];simp)
  have hne:ps2≠[]:=by rw[←h2];exact List.ne_nil_of_mem (zj1 hl)
  have:=hj (j,some V) (keyh _ _ hne)
  rw[key] at this
  rw[h2];exact this
theorem wpT_r {Q:Act→World→Prop} {i:Nat} {L:List (Nat × Option (List Nat))} {a:Act} {w:World} {o:Oper} (ho:ops[i]?=some o)
    (h:∀K:Act→Prop,(∀a',wpT P ops Q L a' w→K a')→if Region.wanted o (yielded ops a.tmps) then o.still P a w K else K (a.put o.dst undef)):wpT P ops Q ((i,none) :: L) a w:=by
 show stOp P ops w i _ a
 unfold stOp
 simp only[ho]
 exact h _ fun _ h=>h
theorem wpT_v {Q:Act→World→Prop} {i:Nat} {L:List (Nat × Option (List Nat))} {a:Act} {w:World} {o:Oper} {v:Value} (ho:ops[i]?=some o) (hg:o.guard=none)
    (hr:(execOp a.eval o).run P w = .ok (.value v) w) (h:wpT P ops Q L (a.put o.dst v) w):wpT P ops Q ((i,none) :: L) a w:=by
 show stOp P ops w i _ a
 unfold stOp
 simp only[ho,Region.wanted,hg,if_true,Oper.still,hr,Oper.stillUpon]
 exact⟨trivial,h⟩
theorem wpT_e {Q:Act→World→Prop} {i:Nat} {U:List Nat} {L:List (Nat × Option (List Nat))} {a:Act} {w:World} {o:Oper} (ho:ops[i]?=some o)
    (h:∀K:Act→World→Prop,(∀a' w',(∀j∈U,again P ops j a' w')→wpT P ops Q L a' w'→K a' w')→if Region.wanted o (yielded ops a.tmps) then effO P o a w K else K (a.put o.dst undef) w):wpT P ops Q ((i,some U) :: L) a w:=by
 show effOp P ops i _ a w
 unfold effOp
 simp only[ho]
 exact h _ fun _ _ h1 h2=>⟨h1,h2⟩
theorem again_of {j:Nat} {o:Oper} {a:Act} {w:World} (ho:ops[j]?=some o)
    (h:∀K:Act→Prop,K a→if Region.wanted o (yielded ops a.tmps) then o.still P a w K else K (a.put o.dst undef)):again P ops j a w:=by
 unfold again stOp
 simp only[ho]
 exact h _ rfl
end
end Go.Proofs.YtophoepbedlhjaaGreatDoor
