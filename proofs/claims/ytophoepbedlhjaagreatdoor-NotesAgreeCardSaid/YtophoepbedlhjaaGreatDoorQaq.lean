/- Numerals, plain: what is written is read; which numerals are written so. -/
import Derived.Test.YtophoepbedlhjaaGreatDoorQab
import Derived.RunT
import Derived.Calls
import Derived.Lib.Atoi
import Derived.Lib.ItoaLen
set_option linter.unusedSimpArgs false
set_option linter.unusedVariables false
namespace Go.Proofs.YtophoepbedlhjaaGreatDoor
section
open Go Go.RowKit
def resW {α:Type}:Result α→World
 | .ok _ w=>w
 | .halt _ w=>w
theorem zi2 {α:Type} {P:Program}:∀(s:Sem α) (w:World),w.drawn≤(resW (s.run P w)).drawn:=by
 intro s
 induction s with
 | pure a=>intro w;exact Nat.le_refl _
 | load m a k ih=>
  intro w
  simp only[Sem.run]
  repeat' split
  all_goals first|exact ih _ _|exact Nat.le_refl _
 | store m a x k ih=>
  intro w
  cases x <;> simp only[Sem.run]
  all_goals first
   | exact Nat.le_refl _
   | (split
      ·split
       ·exact Nat.le_refl _
       ·exact ih (w.setCell a _)
      ·split
       ·rename_i h1;exact Nat.le_trans (zC3 h1) (ih _)
       ·exact Nat.le_refl _)
 | new o k ih=>intro w;simp only[Sem.run];exact ih _ { w with heap:=w.heap.push o }
 | shape r k ih=>intro w;simp only[Sem.run];exact ih _ _
 | freeze a n k ih=>
  intro w;simp only[Sem.run]
  have:=ih (w.freeze a n)
  refine Nat.le_trans (Nat.le_of_eq ?_) this
  unfold World.freeze
  split <;> rfl
 | frozen a k ih=>intro w;simp only[Sem.run];exact ih _ _
 | getObj r k ih=>
  intro w;simp only[Sem.run]
  split
  ·exact Nat.le_refl _
  ·exact ih _ _
  ·exact Nat.le_refl _
 | setObj r o k ih=>
  intro w;simp only[Sem.run]
  split
  ·exact Nat.le_refl _
  ·exact ih { w with heap:=w.heap.setIfInBounds r o }
  ·exact Nat.le_refl _
 | choose q k ih=>
  intro w;simp only[Sem.run]
  split
  ·exact ih _ _
  ·exact Nat.le_trans (Nat.le_succ _) (ih _ { w with drawn:=w.drawn+1 })
 | sys c k ih=>intro w;simp only[Sem.run];exact Nat.le_trans (zd5 w c) (ih _ _)
 | program k ih=>intro w;simp only[Sem.run];exact ih _ _
 | mark m k ih=>intro w;simp only[Sem.run];exact ih _
 | halt h=>intro w;exact Nat.le_refl _
theorem zv1 {α:Type} {P:Program} (s:Sem α) (w:World) (es:Array Event):w.drawn≤(resW (s.runT P w es).1).drawn:=by
 rw[Sem.runT_fst]
 exact zi2 s w
def gsW:GStep→World
 | .go _ w _=>w
 | .comm _ _ _ _ w _=>w
 | .spawn _ _ w _=>w
 | .count _ w _=>w
 | .timer _ _ w _=>w
 | .alone _ _ w _=>w
 | .newcoro _ _ _ w _=>w
 | .coroswitch _ _ _ w _=>w
 | .collect _ w _=>w
 | .watch _ w _=>w
 | .ended _ w _=>w
theorem zZ1 (es:Array Event) (g:GStep):gsW (g.after es)=gsW g:=by cases g <;> rfl
theorem zw2 (p:Program) (main:Bool) (fr:Frame) (cs:List Frame) (d:Option Dying) (v:Value) (w:World):gsW (doReturn p main fr cs d v w)=w:=by
 unfold doReturn
 repeat' split
 all_goals rfl
end
section
open Go Go.RowKit
theorem zD3 (fr:Frame) (m:String) (w:World):gsW (endThrow fr m w)=w:=rfl
theorem zJ2 (p:Program) (fr:Frame) (v:Value) (w:World):gsW (endPrinting p fr v w)=w:=by
 unfold endPrinting
 dsimp only
 repeat' split
 all_goals rfl
theorem zs7 (w:World) (fd:Nat) (t:ByteArray) (o:Outcome):w.drawn≤(gsW (endWith w fd t o)).drawn:=by
 have h:=zd5 w (.write fd t)
 unfold endWith
 revert h
 generalize w.sys (.write fd t)=x
 obtain⟨a,w2⟩:=x
 intro h
 simp only at h ⊢
 repeat' split
 all_goals (rename_i heq;first|(cases heq;exact h)|(rename_i heq2;cases heq2;exact h)|(rename_i _ heq2;cases heq2;exact h)|simp_all [gsW])
theorem gsIte {c:Prop} [Decidable c] {a b:GStep} {n:Nat} (h1:n≤(gsW a).drawn) (h2:n≤(gsW b).drawn):n≤(gsW (if c then a else b)).drawn:=by
 split
 ·exact h1
 ·exact h2
theorem zo4 (hF:∀(p:Program) (fr:Frame) (cs:List Frame) (d:Option Dying) (m:String) (w:World),w.drawn≤(gsW (endFatal p fr cs d m w)).drawn) (p:Program) (fr:Frame) (cs:List Frame) (d:Option Dying) (df:Deferred) (w:World):w.drawn≤(gsW (callDeferred p fr cs d df w)).drawn:=by
 unfold callDeferred
 refine gsIte (Nat.le_refl _) ?_
 ·have h:=zv1 (P:=p) (invoke df.target df.args) w #[]
  revert h
  generalize (invoke df.target df.args).runT p w #[]=x
  obtain⟨r,es⟩:=x
  intro h
  simp only[zZ1] at h ⊢
  cases r with
  | ok n w2=>
   cases n <;> (try simp only)
   all_goals first
    | exact h
    | (rename_i q1 q2;cases q2 <;> exact h)
    | (rename_i q1 q2;cases q1 <;> exact h)
    | (repeat' split
       all_goals exact h)
  | halt e w2=>
   cases e <;> (try simp only)
   all_goals first
    | exact h
    | exact Nat.le_trans h (hF _ _ _ _ _ _)
    | (repeat' split
       all_goals exact h)
theorem zP7 (hF:∀(p:Program) (fr:Frame) (cs:List Frame) (d:Option Dying) (m:String) (w:World),w.drawn≤(gsW (endFatal p fr cs d m w)).drawn) (p:Program) (main:Bool) (fr:Frame) (cs:List Frame) (d:Option Dying) (w:World):w.drawn≤(gsW (unwind p main fr cs d w)).drawn:=by
 unfold unwind
 split
 ·rename_i block _ ds _
  have h:=zv1 (P:=p) (Instr.takeDeferred block) w #[]
  revert h
  generalize (Instr.takeDeferred block).runT p w #[]=x
  obtain⟨r,es⟩:=x
  intro h
  simp only[zZ1] at h ⊢
  cases r <;> exact h
 ·exact zo4 hF _ _ _ _ _ _
 ·split
  ·exact Nat.le_refl _
  ·rename_i chain _
   split
   ·exact Nat.le_refl _
   ·split
    ·exact Nat.le_refl _
    ·split
     ·split
      ·exact Nat.le_refl _
      ·have h:=zi2 (P:=p) (reportChain chain false) w
       revert h
       generalize (reportChain chain false).run p w=x
       intro h
       cases x with
       | ok a w2=>exact h
       | halt e w2=>cases e <;> exact h
     ·split
      ·rw[zJ2];exact Nat.le_refl _
      ·exact Nat.le_refl _
  ·split
   ·rw[zw2];exact Nat.le_refl _
   ·rename_i fn _
    have h:=zv1 (P:=p) (results fn fr.tmps) w #[]
    revert h
    generalize (results fn fr.tmps).runT p w #[]=x
    obtain⟨r,es⟩:=x
    intro h
    simp only[zZ1] at h ⊢
    cases r with
    | ok a w2=>simp only;rw[zw2];exact h
    | halt e w2=>cases e <;> exact h
end
section
open Go Go.RowKit
theorem zk16 {α:Type} {P:Program} {s:Sem α} {w:World} {es:Array Event} {x:Result α × Array Event} (h:s.runT P w es=x):w.drawn≤(resW x.1).drawn:=h▸zv1 s w es
theorem zE3 (p:Program) (fr:Frame) (cs:List Frame) (d:Option Dying) (m:String) (w:World):w.drawn≤(gsW (endFatal p fr cs d m w)).drawn:=by
 unfold endFatal
 extract_lets chain raw shown
 have h:=zi2 (P:=p) shown w
 revert h
 generalize shown.run p w=x
 intro h
 cases x with
 | ok a w2=>exact h
 | halt e w2=>cases e <;> exact h
theorem zG6 (p:Program) (fr:Frame) (d:Dying) (f:Fatal) (w:World):w.drawn≤(gsW (writeOn p fr d f w)).drawn:=by
 unfold writeOn
 extract_lets on
 split
 ·exact Nat.le_refl _
 ·dsimp only
  repeat' split
  all_goals
   rename_i hx
   exact zk16 hx
theorem zk9 (p:Program) (fr:Frame) (cs:List Frame) (d:Option Dying) (g:Nat) (w:World):w.drawn≤(gsW (early p fr cs d g w)).drawn:=by
 unfold early
 extract_lets refuse notYet
 have hr:gsW refuse=w:=rfl
 have hn:∀w2:World,(gsW (notYet w2)).drawn=w2.drawn:=fun w2=>by
  show (gsW (match w2.heap[g]? with
   | some (.pending c elem)=>_
   | _=>_)).drawn=_
  split <;> rfl
 refine gsIte (Nat.le_of_eq (hn w).symm) ?_
 split
 ·rw[hr];exact Nat.le_refl _
 ·rename_i f _
  extract_lets there
  have ht:∀w2:World,gsW (there w2)=w2:=fun w2=>rfl
  refine gsIte (Nat.le_of_eq (hn w).symm) (gsIte (Nat.le_of_eq (hn w).symm) ?_)
  split
  ·rw[hr];exact Nat.le_refl _
  ·rw[ht];exact Nat.le_refl _
  ·rw[hr];exact Nat.le_refl _
  ·exact Nat.le_of_eq (hn w).symm
  ·refine gsIte (by rw[ht];exact Nat.le_refl _) (gsIte (Nat.le_of_eq (hn w).symm) ?_)
   have h:=zi2 (P:=p) (choose (.early g)) w
   revert h
   generalize (choose (.early g)).run p w=x
   intro h
   cases x with
   | ok a w2=>
    cases a with
    | zero=>exact Nat.le_trans h (Nat.le_of_eq (hn w2).symm)
    | succ a=>exact h
   | halt e w2=>exact h
end
section
open Go Go.RowKit
theorem zt2 {α:Type} {P:Program} {s:Sem α} {w:World} {x:Result α} (h:s.run P w=x):w.drawn≤(resW x).drawn:=h▸zi2 s w
theorem zP12 (p:Program) (fr:Frame) (d:Dying) (w:World):w.drawn≤(gsW (die p fr d w)).drawn:=by
 unfold die
 split
 ·exact zG6 _ _ _ _ _
 ·split
  ·exact gsIte (Nat.le_refl _) (zs7 _ _ _ _)
  ·dsimp only
   split
   ·exact Nat.le_refl _
   ·split
    all_goals
     rename_i hx
     exact zt2 hx
   ·rename_i t recv name _
    have h:=zv1 (P:=p) (invoke (.fn (.method name) #[]) #[.iface t recv]) w #[]
    revert h
    generalize (invoke (.fn (.method name) #[]) #[.iface t recv]).runT p w #[]=x
    obtain⟨r,es⟩:=x
    intro h
    simp only[zZ1] at h ⊢
    repeat' split
    all_goals first
     | exact h
     | exact Nat.le_refl _
     | (rw[zJ2];exact h)
   ·exact Nat.le_refl _
theorem zU2 (p:Program) (li:Bool) (fr:Frame) (cs:List Frame) (d:Option Dying) (s:Sem Next) (w:World):w.drawn≤(gsW (stepG.apply p li fr cs d s w)).drawn:=by
 unfold stepG.apply
 have h:w.drawn≤(resW (if li then s.runT p w #[] else (s.run p w,#[])).1).drawn:=by
  split
  ·exact zv1 s w #[]
  ·exact zi2 s w
 revert h
 generalize (if li then s.runT p w #[] else (s.run p w,#[]))=x
 obtain⟨r,es⟩:=x
 intro h
 simp only[zZ1] at h ⊢
 cases r with
 | ok n w2=>
  cases n <;> (try simp only)
  all_goals first
   | exact h
   | (repeat' split
      all_goals exact h)
 | halt e w2=>
  cases e <;> (try simp only)
  all_goals first
   | exact h
   | exact Nat.le_trans h (zE3 _ _ _ _ _ _)
   | (rename_i u;cases u <;> (try simp only)
      all_goals first
       | exact h
       | exact Nat.le_trans h (zk9 _ _ _ _ _ _))
theorem zc11 (p:Program) (li:Bool) (fr:Frame) (cs:List Frame) (d:Option Dying) (w:World):w.drawn≤(gsW (stepG.oper p li fr cs d w)).drawn:=by
 unfold stepG.oper
 split
 ·exact Nat.le_refl _
 ·split
  all_goals exact zU2 _ _ _ _ _ _ _
theorem elimD {α:Type} {o:Option α} {a:GStep} {f:α→GStep} {n:Nat} (h1:n≤(gsW a).drawn) (h2:∀x,n≤(gsW (f x)).drawn):n≤(gsW (o.elim a f)).drawn:=by
 cases o
 ·exact h1
 ·exact h2 _
theorem zl11 (p:Program) (main li:Bool) (fr:Frame) (cs:List Frame) (d:Option Dying) (w:World):w.drawn≤(gsW (stepG.exec p main li fr cs d w)).drawn:=by
 unfold stepG.exec
 extract_lets go to lost leave
 have hl:∀j,w.drawn≤(gsW (leave j)).drawn:=fun j=>by
  show w.drawn≤(gsW (match fr.roundOf with
   | none=>_
   | some l=>_)).drawn
  split
  ·split
   all_goals exact Nat.le_refl _
  ·rename_i l _
   have h:=zv1 (P:=p) (Instr.endRound l j) w #[]
   revert h
   generalize (Instr.endRound l j).runT p w #[]=x
   obtain⟨r,es⟩:=x
   intro h
   simp only[zZ1] at h ⊢
   cases r with
   | ok a w2=>simp only;rw[zw2];exact h
   | halt e w2=>exact h
 clear_value leave
 split
 any_goals exact hl _
 any_goals exact Nat.le_refl _
 any_goals exact zU2 _ _ _ _ _ _ _
 any_goals exact elimD (hl _) fun _=>Nat.le_refl _
 any_goals exact elimD (Nat.le_refl _) fun _=>zU2 _ _ _ _ _ _ _
 any_goals exact gsIte (zc11 _ _ _ _ _ _) (Nat.le_refl _)
 ·split
  all_goals exact Nat.le_refl _
 ·split
  rename_i r es hx
  have h:=zk16 hx
  rw[zZ1]
  cases r with
  | ok a w2=>exact Nat.le_trans h (zU2 _ _ _ _ _ _ _)
  | halt e w2=>exact h
 ·split
  rename_i r es hx
  have h:=zk16 hx
  rw[zZ1]
  cases r with
  | ok a w2=>exact h
  | halt e w2=>cases e <;> exact h
 ·refine gsIte (Nat.le_refl _) ?_
  split
  all_goals
   rename_i hx
   exact zt2 hx
theorem zG8 (p:Program) (main:Bool) (g:Goroutine) (w:World) (li:Bool):w.drawn≤(gsW (stepG p main g w li)).drawn:=by
 unfold stepG
 split
 split
 ·exact zP12 _ _ _ _
 ·exact zl11 _ _ _ _ _ _ _
 ·exact zP7 zE3 _ _ _ _ _ _
end
section
open Go Go.RowKit
def sdOk (n:Nat):Stepped→Prop
 | .next m=>n≤m.world.drawn
 | .ended _ _=>True
theorem sdIte {c:Prop} [Decidable c] {a b:Stepped} {n:Nat} (h1:sdOk n a) (h2:sdOk n b):sdOk n (if c then a else b):=by
 split
 ·exact h1
 ·exact h2
theorem zu4 (p:Program) (gs:Array Goroutine) (rest:Rest) (w:World):sdOk w.drawn (look p gs rest w):=by
 unfold look
 split
 ·dsimp only
  refine sdIte trivial ?_
  split
  ·trivial
  ·split
   ·rename_i hx
    exact zt2 hx
   ·trivial
   ·trivial
 ·trivial
theorem zl9 (w:World) (c:Nat):(drain w c).2.drawn=w.drawn:=by
 unfold drain
 split <;> rfl
theorem zI4 (m:Machine) (k:Nat) (t:Timer) (a b:Nat):(retime m k t a b).2.world.drawn=m.world.drawn:=by
 unfold retime
 cases t.chan with
 | none=>rfl
 | some c=>
  have:=zl9 m.world c
  dsimp only
  generalize drain m.world c=x at this ⊢
  obtain⟨a1,a2⟩:=x
  exact this
theorem zM6 (m:Machine) (o:TimerOp) (v:Value) (m2:Machine) (h:timerOp m o = .ok (v,m2)):m.world.drawn=m2.world.drawn:=by
 unfold timerOp at h
 split at h
 ·split at h
  ·cases h;rfl
  ·split at h
   ·split at h
    ·cases h
    ·cases h;rfl
   ·cases h
 ·unfold timerOp.named at h
  split at h
  ·injection h with h
   have:=congrArg (fun q=>q.2.world.drawn) h
   exact(zI4 _ _ _ _ _).symm.trans this
  ·cases h
 ·split at h
  ·rename_i m1 h1
   unfold timerOp.named at h
   have hm:m1.world.drawn=m.world.drawn:=by
    unfold timerOp.opened at h1
    split at h1
    ·split at h1
     ·cases h1;rfl
     ·cases h1
    ·cases h1;rfl
   split at h
   ·injection h with h
    have:=congrArg (fun q=>q.2.world.drawn) h
    exact(hm.symm.trans (zI4 _ _ _ _ _).symm).trans this
   ·cases h
  ·cases h
 ·cases h;rfl
theorem zJ8 (p:Program) (m:Machine) (k:Nat):sdOk m.world.drawn (serve p m k):=by
 unfold serve
 split
 ·trivial
 ·exact Nat.le_refl _
 ·dsimp only
  split
  ·trivial
  ·exact Nat.le_refl _
end
section
open Go Go.RowKit
theorem sdIte2 {c:Prop} [Decidable c] {a b:Stepped × Array MemOp} {n:Nat} (h1:sdOk n a.1) (h2:sdOk n b.1):sdOk n (if c then a else b).1:=by
 split
 ·exact h1
 ·exact h2
theorem zb5 {rest:Rest} {cs:Array CommCase} {w w2:World} (h:waitingAt rest cs w=some w2):w2.drawn=w.drawn:=by
 unfold waitingAt at h
 split at h
 ·split at h
  ·cases h;rfl
  ·cases h
 ·cases h;rfl
theorem zD4 (p:Program) (rest:Rest) (gs:Array Goroutine) (i:Nat) (g:Goroutine) (cs:Array CommCase) (b:Bool) (sh:CommShape) (w:World):sdOk w.drawn (communicate p rest gs i g cs b sh w).1:=by
 unfold communicate
 extract_lets put illMade me other ready pick
 have hput:∀(g:Goroutine) (gs:Array Goroutine) (w2:World) (ops:Array MemOp),(put g gs w2 ops).1 = .next { world:=w2,gs:=gs.setIfInBounds i g,rest }:=fun _ _ _ _=>rfl
 refine sdIte2 trivial (sdIte2 (sdIte2 ?_ (Nat.le_refl _)) ?_)
 ·split
  ·rename_i hx
   exact Nat.le_of_eq (zb5 hx).symm
  ·trivial
 ·split
  ·trivial
  ·rename_i hx
   have h:=zt2 hx
   dsimp only
   split
   ·split
    ·rename_i hx2
     exact Nat.le_trans h (zt2 hx2)
    ·trivial
   ·exact h
   ·exact h
   ·split
    ·exact h
    ·split
     ·rename_i hx2
      exact Nat.le_trans h (zt2 hx2)
     ·trivial
   ·exact h
   ·exact h
   ·trivial
end
section
open Go Go.RowKit
theorem zT10 (p:Program) (m:Machine) (i:Nat) (li:Bool):sdOk m.world.drawn (runT p m i li).1:=by
 unfold runT
 extract_lets rest world
 split
 rename_i g gs _
 extract_lets wake fn pos s ops done
 have h:m.world.drawn≤(gsW s).drawn:=zG8 p (i == 0) g m.world li
 clear_value s
 cases s with
 | ended o w es=>trivial
 | comm g2 cases_ b sh w es=>
  have h2:=zD4 p rest gs i g2 cases_ b sh w
  dsimp only
  generalize communicate p rest gs i g2 cases_ b sh w=x at h2
  obtain⟨r,more⟩:=x
  cases r with
  | next m2=>exact Nat.le_trans h h2
  | ended o w=>trivial
 | go g2 w es=>exact h
 | spawn g2 ch w es=>exact h
 | count g2 w es=>
  dsimp only[done]
  refine sdIte trivial ?_
  exact h
 | alone g2 on w es=>exact h
 | collect g2 w es=>
  have h2:=zu4 p (gs.setIfInBounds i g2) rest w
  show sdOk _ (look p (gs.setIfInBounds i g2) rest w)
  generalize look p (gs.setIfInBounds i g2) rest w=x at h2
  cases x with
  | next m2=>exact Nat.le_trans h h2
  | ended o w=>trivial
 | watch g2 w es=>exact h
 | newcoro g2 c d w es=>exact h
 | coroswitch g2 c ex w es=>
  dsimp only[done]
  split
  ·exact h
  ·split
   ·rename_i hx
    have h2:=congrArg (fun q=>(gsW q).drawn) hx
    simp only[zD3] at h2
    exact Nat.le_trans h (Nat.le_of_eq h2)
   ·trivial
  ·trivial
 | timer g2 op w es=>
  dsimp only[done]
  split
  ·rename_i hx
   exact Nat.le_trans h (Nat.le_of_eq (zM6 _ _ _ _ hx))
  ·split
   ·rename_i hx
    have h2:=congrArg (fun q=>(gsW q).drawn) hx
    simp only[zD3] at h2
    exact Nat.le_trans h (Nat.le_of_eq h2)
   ·trivial
  ·trivial
  ·trivial
end
section
open Go Go.RowKit
def mvOk (n:Nat):Move→Prop
 | .goroutine m _=>n≤m.world.drawn
 | .machine s _=>sdOk n s
theorem mvIte {c:Prop} [Decidable c] {a b:Move} {n:Nat} (h1:mvOk n a) (h2:mvOk n b):mvOk n (if c then a else b):=by
 split
 ·exact h1
 ·exact h2
theorem sdOk.le {n k:Nat} (h:n≤k) {s:Stepped} (hs:sdOk k s):sdOk n s:=by
 cases s with
 | next m=>exact Nat.le_trans h hs
 | ended o w=>trivial
theorem zS3 (p:Program) (m:Machine):mvOk m.world.drawn (askOn p m):=by
 unfold askOn
 extract_lets mono rs ds pick
 have hp:∀m2:Machine,m.world.drawn≤m2.world.drawn→mvOk m.world.drawn (pick m2):=fun m2 h2=>by
  show mvOk _ (match (choose (.sched rs.length)).run p m2.world with
   | .halt _ w=>_
   | .ok k world=>_)
  split
  ·trivial
  ·rename_i hx
   have h3:=Nat.le_trans h2 (zt2 hx)
   refine mvIte h3 ?_
   split
   ·trivial
   ·rename_i hx2
    exact Nat.le_trans h3 (zt2 hx2)
 clear_value pick
 clear_value rs ds
 split
 ·trivial
 ·rename_i hx
  have h:=zt2 hx
  dsimp only
  refine mvIte (sdOk.le h (zJ8 _ _ _)) ?_
  cases rs
  ·dsimp only
   split
   ·exact h
   ·refine mvIte h ?_
    split <;> trivial
  ·dsimp only
   split
   ·exact hp _ h
   ·split
    ·trivial
    ·rename_i hx2
     exact hp _ (Nat.le_trans h (zt2 hx2))
    ·rename_i hx2
     exact Nat.le_trans h (zt2 hx2)
    ·rename_i hx2
     exact hp _ (Nat.le_trans h (zt2 hx2))
theorem mvOk.le {n k:Nat} (h:n≤k) {s:Move} (hs:mvOk k s):mvOk n s:=by
 cases s with
 | goroutine m i=>exact Nat.le_trans h hs
 | machine s o=>exact sdOk.le h hs
theorem zr12 {p:Program} {gs:Array Goroutine} {rest:Rest} {w:World} {m:Machine} (h:look p gs rest w = .next m):w.drawn≤m.world.drawn:=by
 have h2:=zu4 p gs rest w
 rw[h] at h2
 exact h2
theorem zz6 (p:Program) (m:Machine):mvOk m.world.drawn (ask p m):=by
 unfold ask
 refine mvIte ?_ (zS3 p m)
 split
 ·trivial
 ·rename_i hx
  have h:=zt2 hx
  split
  ·rename_i hx2
   exact mvOk.le (Nat.le_trans h (zr12 hx2)) (zS3 p _)
  ·exact sdOk.le h (zu4 _ _ _ _)
 ·rename_i hx
  exact mvOk.le (zt2 hx) (zS3 _ _)
theorem zg11 (p:Program) (m:Machine):mvOk m.world.drawn (move p m):=by
 unfold move
 split
 ·exact mvIte (Nat.le_refl _) trivial
 ·split
  ·exact mvIte (Nat.le_refl _) (zz6 p _)
  ·exact zz6 p m
theorem zL10 {p:Program} {m m2:Machine} (h:step p m = .next m2):m.world.drawn≤m2.world.drawn:=by
 unfold step stepT at h
 have hm:=zg11 p m
 generalize move p m=x at hm h
 cases x with
 | goroutine m3 i=>
  have h2:=zT10 p m3 i true
  dsimp only at h
  rw[h] at h2
  exact Nat.le_trans hm h2
 | machine s o=>
  dsimp only at h
  rw[h] at hm
  exact hm
theorem zF8 {P:Program} {m m2:Machine} (h:Steps P m m2):m.world.drawn≤m2.world.drawn:=by
 obtain⟨n,hn⟩:=h
 induction n generalizing m with
 | zero=>simp[runN] at hn;rw[hn];exact Nat.le_refl _
 | succ n ih=>
  simp only[runN] at hn
  cases hs:step P m with
  | next m'=>rw[hs] at hn;exact Nat.le_trans (zL10 hs) (ih hn)
  | ended o w=>rw[hs] at hn;cases hn
theorem zP3 {P:Program} {f:FuncId} {args:Array Value} {w:World} {R:Ending→World→Prop} (hR:∀e w',R e w'→∃v,e = .returned v) (h:Calls P f args w R):Calls P f args w fun e w'=>R e w'∧w.drawn≤w'.drawn:=fun cs=>by
 obtain⟨e,w',fr,h1,h2,h3⟩:=h cs
 obtain⟨v,rfl⟩:=hR e w' h1
 exact⟨_,w',fr,⟨h1,zF8 h2⟩,h2,h3⟩
end
section
open Go
theorem zn3 (b:UInt8):∀(l:List UInt8) (acc:Nat),Lib.decFrom acc (l++[b])=(Lib.decFrom acc l).bind fun m=>(Lib.digitVal b).map fun d=>m*10+d
 | [],acc=>by
  simp only[List.nil_append,Lib.decFrom,Option.bind_some]
  cases Lib.digitVal b <;> rfl
 | x :: l,acc=>by
  simp only[List.cons_append,Lib.decFrom]
  cases Lib.digitVal x with
  | none=>rfl
  | some d=>exact zn3 b l _
theorem zx10 (d:Nat) (h:d < 10):Lib.digitVal (UInt8.ofNat (48+d))=some d:=by
 have:∀d:Fin 10,Lib.digitVal (UInt8.ofNat (48+d.val))=some d.val:=by decide
 exact this ⟨d,h⟩
theorem zX4:∀(n u:Nat),u≤n→Lib.decFrom 0 (Lib.decDigits u)=some u
 | 0,u,h=>by
  obtain rfl:u=0:=by omega
  rw[Lib.decDigits,dif_pos (by decide)]
  rfl
 | n+1,u,h=>by
  rw[Lib.decDigits]
  split
  ·rename_i h1
   simp only[Lib.decFrom]
   rw[zx10 u h1]
   simp
  ·rename_i h1
   rw[zn3,zX4 n (u / 10) (by omega),zx10 (u % 10) (by omega)]
   simp
   omega
theorem zL2 (u:Nat):∀b∈Lib.decDigits u,48≤b.toNat∧b.toNat≤57:=fun b hb=>by
 obtain⟨k,hk⟩:=List.mem_iff_getElem?.1 hb
 obtain⟨d,hd⟩:=Lib.digit_of_decFrom _ _ _ (zX4 u u (Nat.le_refl _)) k b hk
 have:=Lib.digitVal_eq hd
 omega
theorem zv3 (n:Int) (h:0≤n):Lib.itoa n=Lib.decDigits n.toNat:=by unfold Lib.itoa;rw[if_neg (by omega)]
theorem zY17 (n:Int) (h:0≤n):Lib.atoi (Lib.itoa n)=some n:=by
 rw[zv3 n h]
 have h1:=zX4 n.toNat n.toNat (Nat.le_refl _)
 have h2:=zL2 n.toNat
 have h3:0 < (Lib.decDigits n.toNat).length:=by rw[Lib.decDigits_length];exact Lib.nDigits_pos _
 cases hl:Lib.decDigits n.toNat with
 | nil=>rw[hl] at h3;cases h3
 | cons b r=>
  rw[hl] at h1 h2
  have hb:=h2 b List.mem_cons_self
  have n1:¬b=45:=fun e=>by subst e;revert hb;decide
  have n2:¬b=43:=fun e=>by subst e;revert hb;decide
  unfold Lib.atoi
  simp only[beq_iff_eq,n1,n2,if_false,Lib.decNat,List.isEmpty_cons,Bool.false_eq_true]
  rw[h1]
  simp
  omega
theorem zJ16 (n:Int) (h:0≤n) (h2:n≤100000000):(Lib.itoa n).length≤9:=by
 rw[zv3 n h,Lib.decDigits_length]
 rcases Nat.lt_or_ge (Lib.nDigits n.toNat) 10 with h3|h3
 ·omega
 ·exfalso
  have h4:∀(k u:Nat),k+1≤Lib.nDigits u→10 ^ k≤u∨k=0:=fun k=>by
   induction k with
   | zero=>exact fun u _=>.inr rfl
   | succ k ih=>
    intro u hu
    by_cases hs:u < 10
    ·rw[Lib.nDigits_small hs] at hu;omega
    ·rw[Lib.nDigits_big hs] at hu
     rcases ih (u / 10) (by omega) with h5|h5
     ·rw[Nat.pow_succ];omega
     ·subst h5;left;omega
  rcases h4 9 n.toNat (by omega) with h5|h5
  ·omega
  ·cases h5
def digB (b:UInt8):Bool:=decide (48≤b.toNat∧b.toNat≤57)
def dgs:List UInt8→List UInt8
 | b :: l=>if b=45 then l else b :: l
 | []=>[]
def negB (s:List UInt8):Bool:=decide (s.head?=some 45)
def valN (d:List UInt8):Nat:=(Lib.decFrom 0 d).getD 0
def svN (s:List UInt8):Int:=if negB s=true then -(valN (dgs s):Int) else (valN (dgs s):Int)
def dokB (s:List UInt8):Bool:=!(dgs s).isEmpty && decide ((dgs s).length≤15) && (dgs s).all digB
def badN (s:List UInt8):Bool:=decide ((dgs s).head?=some 48) && (decide (1 < (dgs s).length) || negB s)
def numF (s:List UInt8):Option Int:=if dokB s=true∧badN s=false then some (svN s) else none
theorem zM5 {b:UInt8} (h:digB b=true):Lib.digitVal b=some (b.toNat - 48):=by
 unfold digB at h
 have h:=of_decide_eq_true h
 unfold Lib.digitVal
 rw[if_pos h]
theorem zt6:∀(d:List UInt8) (acc:Nat),d.all digB=true→∃n,Lib.decFrom acc d=some n
 | [],acc,_=>⟨acc,rfl⟩
 | b :: d,acc,h=>by
  rw[List.all_cons,Bool.and_eq_true] at h
  simp only[Lib.decFrom]
  rw[zM5 h.1]
  exact zt6 d _ h.2
theorem zM3 {d:List UInt8} (h:d.all digB=true):Lib.decFrom 0 d=some (valN d):=by
 obtain⟨n,hn⟩:=zt6 d 0 h
 unfold valN
 rw[hn]
 rfl
theorem zb14 (u:Nat) (h:u≠0):(Lib.decDigits u).head?≠some 48:=by
 induction u using Nat.strongRecOn with
 | _ u ih=>
  rw[Lib.decDigits]
  split
  ·rename_i h1
   have:∀d:Fin 10,d.val≠0→[UInt8.ofNat (48+d.val)].head?≠some 48:=by decide
   exact this ⟨u,h1⟩ h
  ·rename_i h1
   have h2:=ih (u / 10) (by omega) (by omega)
   have h3:0 < (Lib.decDigits (u / 10)).length:=by rw[Lib.decDigits_length];exact Lib.nDigits_pos _
   cases hd:Lib.decDigits (u / 10) with
   | nil=>rw[hd] at h3;cases h3
   | cons b r=>rw[hd] at h2;simpa using h2
theorem zW4:Lib.decDigits 0 = [48]:=by rw[Lib.decDigits,dif_pos (by decide)];rfl
theorem zo11 {b:UInt8} (h:digB b=true):UInt8.ofNat (48+(b.toNat - 48))=b∧b.toNat - 48 < 10:=by
 have h:=of_decide_eq_true h
 constructor
 ·apply UInt8.toNat_inj.1
  simp
  omega
 ·omega
theorem zw8:∀(n:Nat) (d:List UInt8),d.length=n→d.all digB=true→d≠[]→(d.head?≠some 48∨d.length=1)→Lib.decDigits (valN d)=d
 | 0,d,hn,_,h,_=>absurd (List.eq_nil_of_length_eq_zero hn) h
 | n+1,d,hn,ha,h,hc=>by
  obtain⟨e,b,rfl⟩:∃e b,d=e++[b]:=⟨d.dropLast,d.getLast h,(List.dropLast_concat_getLast h).symm⟩
  rw[List.all_append,Bool.and_eq_true] at ha
  have hb:digB b=true:=by simpa using ha.2
  obtain⟨hb1,hb2⟩:=zo11 hb
  have hv:valN (e++[b])=valN e*10+(b.toNat - 48):=by
   rw[valN,zn3,zM3 ha.1,Option.bind_some,zM5 hb]
   rfl
  rw[hv]
  by_cases he:e = []
  ·subst he
   have h0:valN []=0:=rfl
   rw[h0,Lib.decDigits,dif_pos (by omega),Nat.zero_mul,Nat.zero_add,hb1]
   rfl
  ·have hne:e.head?≠some 48:=by
    rcases hc with hc|hc
    ·cases e with
     | nil=>exact absurd rfl he
     | cons x e=>simpa using hc
    ·rw[List.length_append] at hc
     have:0 < e.length:=List.length_pos_iff.2 he
     have h1:[b].length=1:=rfl
     omega
   have ih:=zw8 n e (by simpa using hn) ha.1 he (.inl hne)
   have h0:valN e≠0:=fun h0=>by
    rw[h0,zW4] at ih
    rw[←ih] at hne
    exact hne rfl
   rw[Lib.decDigits,dif_neg (by omega),show (valN e*10+(b.toNat - 48)) / 10=valN e by omega,show (valN e*10+(b.toNat - 48)) % 10=b.toNat - 48 by omega,ih,hb1]
theorem zH16 (u:Nat):(Lib.decDigits u).all digB=true:=List.all_eq_true.2 fun b hb=>decide_eq_true (zL2 u b hb)
theorem zX14 (u:Nat):valN (Lib.decDigits u)=u:=by unfold valN;rw[zX4 u u (Nat.le_refl _)];rfl
theorem dokB_iff {s:List UInt8}:dokB s=true↔dgs s≠[]∧(dgs s).length≤15∧(dgs s).all digB=true:=by
 unfold dokB
 cases dgs s <;> simp[and_assoc]
theorem zv8 (s:List UInt8):(negB s=true∧s=45 :: dgs s)∨(negB s=false∧dgs s=s):=by
 cases s with
 | nil=>exact .inr ⟨rfl,rfl⟩
 | cons b l=>
  by_cases h:b=45
  ·subst h;exact .inl ⟨rfl,rfl⟩
  ·exact .inr ⟨by simp[negB,h],by simp[dgs,h]⟩
theorem zY12 {s:List UInt8} (h:dokB s=true):Lib.itoa (svN s)=s↔badN s=false:=by
 obtain⟨h1,h2,h3⟩:=dokB_iff.1 h
 have hcan:=zw8 _ (dgs s) rfl h3 h1
 have hhd:=zb14 (valN (dgs s))
 rcases zv8 s with⟨hn,hs⟩|⟨hn,hs⟩
 ·unfold svN badN
  rw[if_pos hn,hn,Bool.or_true,Bool.and_true]
  unfold Lib.itoa
  by_cases h0:valN (dgs s)=0
  ·rw[h0,if_neg (by decide)]
   constructor
   ·intro he
    rw[hs] at he
    exact absurd he (by rw[show (Int.toNat (-((0:Nat):Int)))=0 from rfl,zW4];simp)
   ·intro he
    rw[decide_eq_false_iff_not] at he
    have:=hcan (.inl he)
    rw[h0,zW4] at this
    rw[←this] at he
    exact absurd rfl he
  ·rw[if_pos (by omega),show (-(valN (dgs s):Int)).natAbs=valN (dgs s) by omega,decide_eq_false_iff_not]
   constructor
   ·intro he h4
    rw[hs] at he
    injection he with _ he
    rw[←hs] at he
    exact hhd h0 (by rw[he];exact h4)
   ·intro h4
    rw[hcan (.inl h4),←hs]
 ·unfold svN badN
  rw[hn,if_neg (by simp),Bool.or_false]
  rw[show Lib.itoa (valN (dgs s):Int)=Lib.decDigits (valN (dgs s)) by rw[zv3 _ (by omega)];rfl]
  constructor
  ·intro he
   by_cases h4:(dgs s).head?=some 48
   ·by_cases h0:valN (dgs s)=0
    ·rw[h0,zW4] at he
     rw[hs,←he]
     rfl
    ·rw[hs] at h4
     have:=hhd h0
     rw[he] at this
     exact absurd h4 this
   ·rw[decide_eq_false h4];rfl
  ·intro he
   rw[Bool.and_eq_false_iff,decide_eq_false_iff_not,decide_eq_false_iff_not] at he
   rw[hcan (he.imp id fun h5=>by have:=List.length_pos_iff.2 h1;omega),hs]
theorem zj14 {d:List UInt8} (h1:d≠[]) (h3:d.all digB=true):Lib.atoi d=some (valN d:Int):=by
 cases d with
 | nil=>exact absurd rfl h1
 | cons b r=>
  have hb:=of_decide_eq_true (show digB b=true by rw[List.all_cons,Bool.and_eq_true] at h3;exact h3.1)
  have n1:¬b=45:=fun e=>by subst e;revert hb;decide
  have n2:¬b=43:=fun e=>by subst e;revert hb;decide
  unfold Lib.atoi
  simp only[beq_iff_eq,n1,n2,if_false,Lib.decNat,List.isEmpty_cons,Bool.false_eq_true]
  rw[zM3 h3]
  rfl
theorem zN16 {d:List UInt8} (h2:d.length≤15) (h3:d.all digB=true):valN d < 1000000000000000:=by
 have h:=Lib.decFrom_lt d 0 _ (zM3 h3)
 have h4:10 ^ d.length≤10 ^ 15:=Nat.pow_le_pow_right (by decide) h2
 have e:(10:Nat) ^ 15=1000000000000000:=by decide
 omega
theorem zT6 (n:Int) (h:0≤n) (h2:n < 1000000000000000):numF (Lib.itoa n)=some n:=by
 rw[zv3 n h]
 have hne:Lib.decDigits n.toNat≠[]:=fun e=>by
  have:=Lib.decDigits_length n.toNat
  rw[e] at this
  have:=Lib.nDigits_pos n.toNat
  simp at *
  omega
 have hd:dgs (Lib.decDigits n.toNat)=Lib.decDigits n.toNat∧negB (Lib.decDigits n.toNat)=false:=by
  rcases zv8 (Lib.decDigits n.toNat) with⟨hn,hs⟩|⟨hn,hs⟩
  ·have:=zL2 n.toNat 45 (by rw[hs];exact List.mem_cons_self)
   exact absurd this (by decide)
  ·exact⟨hs,hn⟩
 have hl:(Lib.decDigits n.toNat).length≤15:=by
  rw[Lib.decDigits_length]
  rcases Nat.lt_or_ge (Lib.nDigits n.toNat) 16 with h3|h3
  ·omega
  ·exfalso
   have h4:∀(k u:Nat),k+1≤Lib.nDigits u→10 ^ k≤u∨k=0:=fun k=>by
    induction k with
    | zero=>exact fun u _=>.inr rfl
    | succ k ih=>
     intro u hu
     by_cases hs:u < 10
     ·rw[Lib.nDigits_small hs] at hu;omega
     ·rw[Lib.nDigits_big hs] at hu
      rcases ih (u / 10) (by omega) with h5|h5
      ·rw[Nat.pow_succ];omega
      ·subst h5;left;omega
   rcases h4 15 n.toNat (by omega) with h5|h5
   ·omega
   ·cases h5
 have hdok:dokB (Lib.decDigits n.toNat)=true:=dokB_iff.2 (by rw[hd.1];exact⟨hne,hl,zH16 _⟩)
 have hsv:svN (Lib.decDigits n.toNat)=n:=by
  unfold svN
  rw[hd.2,if_neg (by simp),hd.1,zX14]
  omega
 unfold numF
 rw[if_pos ⟨hdok,(zY12 hdok).1 (by rw[hsv,zv3 n h])⟩,hsv]
end
end Go.Proofs.YtophoepbedlhjaaGreatDoor
