/- No step of the machine takes a draw back: the whole. -/
import Derived.Test.YtophoepbedlhjaaGreatDoorQbv
import Derived.Test.YtophoepbedlhjaaGreatDoorProg
import Derived.Test.YtophoepbedlhjaaGreatDoorQap
import Derived.Test.YtophoepbedlhjaaGreatDoorQam
import Derived.Test.YtophoepbedlhjaaGreatDoorQbg
import Derived.Test.YtophoepbedlhjaaGreatDoorQac
import Derived.RunT
import Derived.Calls
set_option linter.unusedSimpArgs false
set_option linter.unusedVariables false
namespace Go.Proofs.YtophoepbedlhjaaGreatDoor
open Go Go.RowKit
set_option maxRecDepth 100000
def xcall (P:Program) (orc:XCf):Nat→XCf
 | 0,f,args,H,k=>orc f args H k
 | n+1,f,args,H,k=>match orc f args H k with
  | some r=>some r
  | none=>xenter P (fun N c F H k=>xcode P (xcall P orc n) 3000 N none false c F H k) f args H k
theorem zE6 {P:Program} {f:FuncId} {args:Array Value} {w:World} {R:Ending→World→Prop} (h:CallsIn Fence.wide 0 P f args w R):Calls P f args w R:=callsIn_wide.1 h
theorem zC8 {P:Program} (hm:P.follows .mixedOrders=true) {orc:XCf} (ho:XCfOk P orc):∀n,XCfOk P (xcall P orc n)
 | 0=>fun f args H k u H' k' h=>ho f args H k u H' k' h
 | n+1=>fun f args H k u H' k' h=>by
  unfold xcall at h
  split at h
  ·rename_i r hr
   injection h with h
   subst h
   exact ho f args H k u H' k' hr
  ·intro w0 ρ γ w hH hok
   refine zE6 (zK6 (n:=0) h (fun N c F e F' k2 a Q hx hR hQ=>?_) hH hok)
   exact(zQ hm (zC8 hm ho n) 3000 (m:=0) (.inl ⟨rfl,rfl⟩) (fun h=>by cases h) hx hR trivial hQ).1
def xnone:XCf:=fun _ _ _ _=>none
theorem xnone_ok (P:Program):XCfOk P xnone:=fun f args H k u H' k' h=>by cases h
def xrun (P:Program) (orc:XCf) (f:FuncId):Option Value:=match xcall P orc 60 f [] .nil 0 with
 | some (.v u,_,_)=>some u
 | _=>none
theorem zC5 {P:Program} (hm:P.follows .mixedOrders=true) {orc:XCf} (ho:XCfOk P orc) {f:FuncId} {u:Value} (h:xrun P orc f=some u):ACalls P f [] [] fun v H=>v = .c (.s u)∧H = []:=fun S ρ w hp hw=>by
 unfold xrun at h
 split at h
 ·rename_i u' H' k' hx
  injection h with h
  subst h
  have hH:XH ⟨w,fun _=>none,[]⟩ (fun _=>0) (fun _=>0) .nil w:=⟨fun i j o o' h=>(by cases h),fun i o h=>(by cases h),fun i o h=>(by cases h),fun i o h=>(by cases h),⟨Stp.refl _ _,fun B ob h=>(by cases h)⟩⟩
  refine(zC8 hm ho 60 _ _ _ _ _ _ _ hx _ _ _ w hH trivial).mono ?_
  rintro e w' ⟨ρ',γ',rfl,h1,_,_⟩
  have hρ:ρ = []:=List.eq_nil_of_length_eq_zero hp.len
  subst hρ
  have hst:=h1.st
  refine⟨.c (.s u'),[],[],S,rfl,⟨rfl,rfl⟩,.c (.s u'),⟨rfl,fun i i' B h=>(by cases h),fun i B h=>(by cases h),fun i B h=>(by cases h),fun b hb=>Nat.lt_of_lt_of_le (hp.sS b hb) hst.size,fun i o h=>(by simp at h),PL.none fun _ _ _=>zo4⟩,⟨hst.os,hst.tape,hst.output,hst.size,fun b hb _=>hst.block b hb (fun h=>h),hst.drawn⟩,fun b hb=>.inl hb,fun i B h=>(by cases h),fun i k B h=>absurd h zo4,fun i hi=>(by simp at hi),fun h=>(by cases h)⟩
 ·cases h
end Go.Proofs.YtophoepbedlhjaaGreatDoor
namespace Go.Proofs.YtophoepbedlhjaaGreatDoor
open Go
set_option maxRecDepth 1000000
theorem h10_run:xrun Tryz.prog xnone 9=some (.bool true):=by kernel_rfl
theorem h10_a:ACalls Tryz.prog 9 [] [] fun u H=>u = .c (B true)∧H = []:=zC5 (by kernel_rfl) (xnone_ok _) (u:=.bool true) h10_run
end Go.Proofs.YtophoepbedlhjaaGreatDoor
namespace Go.Proofs.YtophoepbedlhjaaGreatDoor
open Go Go.RowKit
set_option maxRecDepth 100000
end Go.Proofs.YtophoepbedlhjaaGreatDoor
-- NEWM
namespace Go.Proofs.YtophoepbedlhjaaGreatDoor
open Go Go.RowKit
set_option maxRecDepth 100000
section
variable {N:Nat} {E:Env} {o:Oper} {F:Fm} {H:List OB} {x y:Operand} {yt:TypeId}
theorem rd_neqP0 {a0 a1 b0 b1:ByteArray} (ho:o.op = .binOp .neq 52 x y yt) (hx:ev F x=some (.a [.c (.s (.string a0)),.c (.s (.string a1))])) (hy:ev F y=some (.a [.c (.s (.string b0)),.c (.s (.string b1))])):Rd Tryz.prog N E o F H (.c (.s (.bool (decide (¬(a0.toList=b0.toList∧a1.toList=b1.toList)))))):=
 zj2 (dx:=.agg #[.string a0,.string a1]) (dy:=.agg #[.string b0,.string b1]) ho hx hy (fun _ _=>by simp[AV.den,CV.den,AV.denL]) (fun _ _=>by simp[AV.den,CV.den,AV.denL]) fun w=>by
  go_simp
  repeat' split
  all_goals simp_all
theorem rd_neqP {a b:Pr} {q:Bool} (h:decide (¬a=b)=q) (ho:o.op = .binOp .neq 52 x y yt) (hx:ev F x=some (prA a)) (hy:ev F y=some (prA b)):Rd Tryz.prog N E o F H (.c (.s (.bool q))):=by
 have:=rd_neqP0 (N:=N) (E:=E) (H:=H) ho hx hy
 rwa [show decide (¬((bst a.1).toList=(bst b.1).toList∧(bst a.2).toList=(bst b.2).toList))=q by
  rw[←h]
  congr 1
  simp only[zZ1]
  rw[Prod.ext_iff]] at this
end
theorem zh9 (v w:Value) (a b:List Pr) (ha:a.length≤1000000) (hb:b.length≤1000000):ACalls Tryz.prog 14 [.c (.r v (prRs a)),.c (.r w (prRs b))] [] fun u H=>u = .c (B (decide (a=b)))∧H = []:=by
 have e1:(prRs a).length=a.length:=by simp
 have e2:(prRs b).length=b.length:=by simp
 refine zb (N:=26) Tryz.func14 rfl rfl (by simp) fun E hE=>?_
 refine WA ?_
 refine WA ?_
 refine zl rfl (fun h0=>?_) (fun h0=>?_)
 ·refine WA ?_
  exact arz (q:=⟨by rw[decide_eq_false (fun h=>h0 (by rw[h]))],rfl⟩)
 have hlen:a.length=b.length:=by omega
 refine WA ?_
 refine zm (fun m F H=>∃(k:Nat),m+k=a.length∧a.take k=b.take k∧F = [(0,.c (.r v (prRs a))),(1,.c (.r w (prRs b))),(12,.c (I (prRs a).length)),(13,.c (I k))]∧H = []) ?_ ?_
 ·refine wkg [] (fun _=>[(0,.c (.r v (prRs a))),(1,.c (.r w (prRs b))),(12,.c (I (prRs a).length)),(13,.c (I (0:Nat)))]) (fun _=>[]) (fun _=>?_) (hH:=fun _=>.nil)
  exact⟨a.length,0,by omega,rfl,rfl,rfl⟩
 rintro m F H ⟨k,hk,hf,rfl,rfl⟩
 refine WA ?_
 refine zl rfl (fun hlt=>?_) (fun hge=>?_)
 ·obtain⟨x,hx⟩:∃n,a[k]?=some n:=⟨_,List.getElem?_eq_getElem (by omega)⟩
  obtain⟨y,hy⟩:∃n,b[k]?=some n:=⟨_,List.getElem?_eq_getElem (by omega)⟩
  have hrx0:(prRs a)[k]?=some (prR x):=by rw[List.getElem?_map,hx];rfl
  have hry0:(prRs b)[k]?=some (prR y):=by rw[List.getElem?_map,hy];rfl
  obtain⟨q,hq⟩:∃q,decide (¬x=y)=q:=⟨_,rfl⟩
  have hta:a.take (k+1)=a.take k++[x]:=by rw[List.take_add_one,hx];rfl
  have htb:b.take (k+1)=b.take k++[y]:=by rw[List.take_add_one,hy];rfl
  obtain⟨x0,x1⟩:=x
  obtain⟨y0,y1⟩:=y
  have hrx:(prRs a)[k]?=some [T x0,T x1]:=hrx0
  have hry:(prRs b)[k]?=some [T y0,T y1]:=hry0
  refine WA ?_
  refine ZZ ?_
  refine zc [(0,none),(1,none),(2,none),(3,none),(4,none),(5,none),(6,none),(7,none),(8,none)] zo (by kernel_rfl) ?_
  iterate 8 refine WX2 ?_
  refine ZT rfl (rd_neqP (a:=(x0,x1)) (b:=(y0,y1)) hq rfl rfl rfl) ?_
  refine WQ ?_
  cases q with
  | true=>
   refine zd rfl ?_
   refine WA ?_
   refine arz (q:=⟨?_,rfl⟩)
   rw[decide_eq_false]
   intro h
   rw[h,hy] at hx
   exact of_decide_eq_true hq (Option.some.inj hx).symm
  | false=>
   refine za rfl ?_
   refine WA ?_
   refine wkg [] (fun _=>[(0,.c (.r v (prRs a))),(1,.c (.r w (prRs b))),(12,.c (I (prRs a).length)),(13,.c (I (k+1:Nat)))]) (fun _=>[]) (fun _=>?_) (hH:=fun _=>.nil)
   exact⟨m - 1,by omega,k+1,by omega,by rw[hta,htb,hf,Decidable.not_not.1 (of_decide_eq_false hq)],rfl,rfl⟩
 rw[List.take_of_length_le (by omega),List.take_of_length_le (by omega)] at hf
 refine WA ?_
 exact arz (q:=⟨by rw[decide_eq_true hf],rfl⟩)
end Go.Proofs.YtophoepbedlhjaaGreatDoor
namespace Go.Proofs.YtophoepbedlhjaaGreatDoor
open Go Go.RowKit
def resW {α:Type}:Result α→World
 | .ok _ w=>w
 | .halt _ w=>w
theorem za2 {α:Type} {P:Program}:∀(s:Sem α) (w:World),w.drawn≤(resW (s.run P w)).drawn:=by
 intro s
 induction s with
 | pure a=>intro w;exact Nat.le_refl _
 | load m a k ih=>
  intro w
  simp only[Sem.run]
  repeat' split
  all_goals first|exact ih _ _|exact Nat.le_refl _
 | store m a x k ih=>
  intro w
  cases x <;> simp only[Sem.run]
  all_goals first
   | exact Nat.le_refl _
   | (split
      ·split
       ·exact Nat.le_refl _
       ·exact ih (w.setCell a _)
      ·split
       ·rename_i h1;exact Nat.le_trans (zu3 h1) (ih _)
       ·exact Nat.le_refl _)
 | new o k ih=>intro w;simp only[Sem.run];exact ih _ { w with heap:=w.heap.push o }
 | shape r k ih=>intro w;simp only[Sem.run];exact ih _ _
 | freeze a n k ih=>
  intro w;simp only[Sem.run]
  have:=ih (w.freeze a n)
  refine Nat.le_trans (Nat.le_of_eq ?_) this
  unfold World.freeze
  split <;> rfl
 | frozen a k ih=>intro w;simp only[Sem.run];exact ih _ _
 | getObj r k ih=>
  intro w;simp only[Sem.run]
  split
  ·exact Nat.le_refl _
  ·exact ih _ _
  ·exact Nat.le_refl _
 | setObj r o k ih=>
  intro w;simp only[Sem.run]
  split
  ·exact Nat.le_refl _
  ·exact ih { w with heap:=w.heap.setIfInBounds r o }
  ·exact Nat.le_refl _
 | choose q k ih=>
  intro w;simp only[Sem.run]
  split
  ·exact ih _ _
  ·exact Nat.le_trans (Nat.le_succ _) (ih _ { w with drawn:=w.drawn+1 })
 | sys c k ih=>intro w;simp only[Sem.run];exact Nat.le_trans (za5 w c) (ih _ _)
 | program k ih=>intro w;simp only[Sem.run];exact ih _ _
 | mark m k ih=>intro w;simp only[Sem.run];exact ih _
 | halt h=>intro w;exact Nat.le_refl _
theorem zl1 {α:Type} {P:Program} (s:Sem α) (w:World) (es:Array Event):w.drawn≤(resW (s.runT P w es).1).drawn:=by
 rw[Sem.runT_fst]
 exact za2 s w
def gsW:GStep→World
 | .go _ w _=>w
 | .comm _ _ _ _ w _=>w
 | .spawn _ _ w _=>w
 | .count _ w _=>w
 | .timer _ _ w _=>w
 | .alone _ _ w _=>w
 | .newcoro _ _ _ w _=>w
 | .coroswitch _ _ _ w _=>w
 | .collect _ w _=>w
 | .watch _ w _=>w
 | .ended _ w _=>w
theorem zL1 (es:Array Event) (g:GStep):gsW (g.after es)=gsW g:=by cases g <;> rfl
theorem zG2 (p:Program) (main:Bool) (fr:Frame) (cs:List Frame) (d:Option Dying) (v:Value) (w:World):gsW (doReturn p main fr cs d v w)=w:=by
 unfold doReturn
 repeat' split
 all_goals rfl
end Go.Proofs.YtophoepbedlhjaaGreatDoor
namespace Go.Proofs.YtophoepbedlhjaaGreatDoor
open Go Go.RowKit
theorem zv3 (fr:Frame) (m:String) (w:World):gsW (endThrow fr m w)=w:=rfl
theorem zN2 (p:Program) (fr:Frame) (v:Value) (w:World):gsW (endPrinting p fr v w)=w:=by
 unfold endPrinting
 dsimp only
 repeat' split
 all_goals rfl
theorem zw6 (w:World) (fd:Nat) (t:ByteArray) (o:Outcome):w.drawn≤(gsW (endWith w fd t o)).drawn:=by
 have h:=za5 w (.write fd t)
 unfold endWith
 revert h
 generalize w.sys (.write fd t)=x
 obtain⟨a,w2⟩:=x
 intro h
 simp only at h ⊢
 repeat' split
 all_goals (rename_i heq;first|(cases heq;exact h)|(rename_i heq2;cases heq2;exact h)|(rename_i _ heq2;cases heq2;exact h)|simp_all [gsW])
theorem gsIte {c:Prop} [Decidable c] {a b:GStep} {n:Nat} (h1:n≤(gsW a).drawn) (h2:n≤(gsW b).drawn):n≤(gsW (if c then a else b)).drawn:=by
 split
 ·exact h1
 ·exact h2
theorem za4 (hF:∀(p:Program) (fr:Frame) (cs:List Frame) (d:Option Dying) (m:String) (w:World),w.drawn≤(gsW (endFatal p fr cs d m w)).drawn) (p:Program) (fr:Frame) (cs:List Frame) (d:Option Dying) (df:Deferred) (w:World):w.drawn≤(gsW (callDeferred p fr cs d df w)).drawn:=by
 unfold callDeferred
 refine gsIte (Nat.le_refl _) ?_
 ·have h:=zl1 (P:=p) (invoke df.target df.args) w #[]
  revert h
  generalize (invoke df.target df.args).runT p w #[]=x
  obtain⟨r,es⟩:=x
  intro h
  simp only[zL1] at h ⊢
  cases r with
  | ok n w2=>
   cases n <;> (try simp only)
   all_goals first
    | exact h
    | (rename_i q1 q2;cases q2 <;> exact h)
    | (rename_i q1 q2;cases q1 <;> exact h)
    | (repeat' split
       all_goals exact h)
  | halt e w2=>
   cases e <;> (try simp only)
   all_goals first
    | exact h
    | exact Nat.le_trans h (hF _ _ _ _ _ _)
    | (repeat' split
       all_goals exact h)
theorem zR6 (hF:∀(p:Program) (fr:Frame) (cs:List Frame) (d:Option Dying) (m:String) (w:World),w.drawn≤(gsW (endFatal p fr cs d m w)).drawn) (p:Program) (main:Bool) (fr:Frame) (cs:List Frame) (d:Option Dying) (w:World):w.drawn≤(gsW (unwind p main fr cs d w)).drawn:=by
 unfold unwind
 split
 ·rename_i block _ ds _
  have h:=zl1 (P:=p) (Instr.takeDeferred block) w #[]
  revert h
  generalize (Instr.takeDeferred block).runT p w #[]=x
  obtain⟨r,es⟩:=x
  intro h
  simp only[zL1] at h ⊢
  cases r <;> exact h
 ·exact za4 hF _ _ _ _ _ _
 ·split
  ·exact Nat.le_refl _
  ·rename_i chain _
   split
   ·exact Nat.le_refl _
   ·split
    ·exact Nat.le_refl _
    ·split
     ·split
      ·exact Nat.le_refl _
      ·have h:=za2 (P:=p) (reportChain chain false) w
       revert h
       generalize (reportChain chain false).run p w=x
       intro h
       cases x with
       | ok a w2=>exact h
       | halt e w2=>cases e <;> exact h
     ·split
      ·rw[zN2];exact Nat.le_refl _
      ·exact Nat.le_refl _
  ·split
   ·rw[zG2];exact Nat.le_refl _
   ·rename_i fn _
    have h:=zl1 (P:=p) (results fn fr.tmps) w #[]
    revert h
    generalize (results fn fr.tmps).runT p w #[]=x
    obtain⟨r,es⟩:=x
    intro h
    simp only[zL1] at h ⊢
    cases r with
    | ok a w2=>simp only;rw[zG2];exact h
    | halt e w2=>cases e <;> exact h
end Go.Proofs.YtophoepbedlhjaaGreatDoor
namespace Go.Proofs.YtophoepbedlhjaaGreatDoor
open Go Go.RowKit
theorem dr_of {α:Type} {P:Program} {s:Sem α} {w:World} {es:Array Event} {x:Result α × Array Event} (h:s.runT P w es=x):w.drawn≤(resW x.1).drawn:=h▸zl1 s w es
theorem zw3 (p:Program) (fr:Frame) (cs:List Frame) (d:Option Dying) (m:String) (w:World):w.drawn≤(gsW (endFatal p fr cs d m w)).drawn:=by
 unfold endFatal
 extract_lets chain raw shown
 have h:=za2 (P:=p) shown w
 revert h
 generalize shown.run p w=x
 intro h
 cases x with
 | ok a w2=>exact h
 | halt e w2=>cases e <;> exact h
theorem zZ5 (p:Program) (fr:Frame) (d:Dying) (f:Fatal) (w:World):w.drawn≤(gsW (writeOn p fr d f w)).drawn:=by
 unfold writeOn
 extract_lets on
 split
 ·exact Nat.le_refl _
 ·dsimp only
  repeat' split
  all_goals
   rename_i hx
   exact dr_of hx
theorem zi8 (p:Program) (fr:Frame) (cs:List Frame) (d:Option Dying) (g:Nat) (w:World):w.drawn≤(gsW (early p fr cs d g w)).drawn:=by
 unfold early
 extract_lets refuse notYet
 have hr:gsW refuse=w:=rfl
 have hn:∀w2:World,(gsW (notYet w2)).drawn=w2.drawn:=fun w2=>by
  show (gsW (match w2.heap[g]? with
   | some (.pending c elem)=>_
   | _=>_)).drawn=_
  split <;> rfl
 refine gsIte (Nat.le_of_eq (hn w).symm) ?_
 split
 ·rw[hr];exact Nat.le_refl _
 ·rename_i f _
  extract_lets there
  have ht:∀w2:World,gsW (there w2)=w2:=fun w2=>rfl
  refine gsIte (Nat.le_of_eq (hn w).symm) (gsIte (Nat.le_of_eq (hn w).symm) ?_)
  split
  ·rw[hr];exact Nat.le_refl _
  ·rw[ht];exact Nat.le_refl _
  ·rw[hr];exact Nat.le_refl _
  ·exact Nat.le_of_eq (hn w).symm
  ·refine gsIte (by rw[ht];exact Nat.le_refl _) (gsIte (Nat.le_of_eq (hn w).symm) ?_)
   have h:=za2 (P:=p) (choose (.early g)) w
   revert h
   generalize (choose (.early g)).run p w=x
   intro h
   cases x with
   | ok a w2=>
    cases a with
    | zero=>exact Nat.le_trans h (Nat.le_of_eq (hn w2).symm)
    | succ a=>exact h
   | halt e w2=>exact h
end Go.Proofs.YtophoepbedlhjaaGreatDoor
namespace Go.Proofs.YtophoepbedlhjaaGreatDoor
open Go Go.RowKit
theorem zr2 {α:Type} {P:Program} {s:Sem α} {w:World} {x:Result α} (h:s.run P w=x):w.drawn≤(resW x).drawn:=h▸za2 s w
theorem zu11 (p:Program) (fr:Frame) (d:Dying) (w:World):w.drawn≤(gsW (die p fr d w)).drawn:=by
 unfold die
 split
 ·exact zZ5 _ _ _ _ _
 ·split
  ·exact gsIte (Nat.le_refl _) (zw6 _ _ _ _)
  ·dsimp only
   split
   ·exact Nat.le_refl _
   ·split
    all_goals
     rename_i hx
     exact zr2 hx
   ·rename_i t recv name _
    have h:=zl1 (P:=p) (invoke (.fn (.method name) #[]) #[.iface t recv]) w #[]
    revert h
    generalize (invoke (.fn (.method name) #[]) #[.iface t recv]).runT p w #[]=x
    obtain⟨r,es⟩:=x
    intro h
    simp only[zL1] at h ⊢
    repeat' split
    all_goals first
     | exact h
     | exact Nat.le_refl _
     | (rw[zN2];exact h)
   ·exact Nat.le_refl _
theorem zV2 (p:Program) (li:Bool) (fr:Frame) (cs:List Frame) (d:Option Dying) (s:Sem Next) (w:World):w.drawn≤(gsW (stepG.apply p li fr cs d s w)).drawn:=by
 unfold stepG.apply
 have h:w.drawn≤(resW (if li then s.runT p w #[] else (s.run p w,#[])).1).drawn:=by
  split
  ·exact zl1 s w #[]
  ·exact za2 s w
 revert h
 generalize (if li then s.runT p w #[] else (s.run p w,#[]))=x
 obtain⟨r,es⟩:=x
 intro h
 simp only[zL1] at h ⊢
 cases r with
 | ok n w2=>
  cases n <;> (try simp only)
  all_goals first
   | exact h
   | (repeat' split
      all_goals exact h)
 | halt e w2=>
  cases e <;> (try simp only)
  all_goals first
   | exact h
   | exact Nat.le_trans h (zw3 _ _ _ _ _ _)
   | (rename_i u;cases u <;> (try simp only)
      all_goals first
       | exact h
       | exact Nat.le_trans h (zi8 _ _ _ _ _ _))
theorem zL9 (p:Program) (li:Bool) (fr:Frame) (cs:List Frame) (d:Option Dying) (w:World):w.drawn≤(gsW (stepG.oper p li fr cs d w)).drawn:=by
 unfold stepG.oper
 split
 ·exact Nat.le_refl _
 ·split
  all_goals exact zV2 _ _ _ _ _ _ _
theorem elimD {α:Type} {o:Option α} {a:GStep} {f:α→GStep} {n:Nat} (h1:n≤(gsW a).drawn) (h2:∀x,n≤(gsW (f x)).drawn):n≤(gsW (o.elim a f)).drawn:=by
 cases o
 ·exact h1
 ·exact h2 _
theorem zQ9 (p:Program) (main li:Bool) (fr:Frame) (cs:List Frame) (d:Option Dying) (w:World):w.drawn≤(gsW (stepG.exec p main li fr cs d w)).drawn:=by
 unfold stepG.exec
 extract_lets go to lost leave
 have hl:∀j,w.drawn≤(gsW (leave j)).drawn:=fun j=>by
  show w.drawn≤(gsW (match fr.roundOf with
   | none=>_
   | some l=>_)).drawn
  split
  ·split
   all_goals exact Nat.le_refl _
  ·rename_i l _
   have h:=zl1 (P:=p) (Instr.endRound l j) w #[]
   revert h
   generalize (Instr.endRound l j).runT p w #[]=x
   obtain⟨r,es⟩:=x
   intro h
   simp only[zL1] at h ⊢
   cases r with
   | ok a w2=>simp only;rw[zG2];exact h
   | halt e w2=>exact h
 clear_value leave
 split
 any_goals exact hl _
 any_goals exact Nat.le_refl _
 any_goals exact zV2 _ _ _ _ _ _ _
 any_goals exact elimD (hl _) fun _=>Nat.le_refl _
 any_goals exact elimD (Nat.le_refl _) fun _=>zV2 _ _ _ _ _ _ _
 any_goals exact gsIte (zL9 _ _ _ _ _ _) (Nat.le_refl _)
 ·split
  all_goals exact Nat.le_refl _
 ·split
  rename_i r es hx
  have h:=dr_of hx
  rw[zL1]
  cases r with
  | ok a w2=>exact Nat.le_trans h (zV2 _ _ _ _ _ _ _)
  | halt e w2=>exact h
 ·split
  rename_i r es hx
  have h:=dr_of hx
  rw[zL1]
  cases r with
  | ok a w2=>exact h
  | halt e w2=>cases e <;> exact h
 ·refine gsIte (Nat.le_refl _) ?_
  split
  all_goals
   rename_i hx
   exact zr2 hx
theorem zG7 (p:Program) (main:Bool) (g:Goroutine) (w:World) (li:Bool):w.drawn≤(gsW (stepG p main g w li)).drawn:=by
 unfold stepG
 split
 split
 ·exact zu11 _ _ _ _
 ·exact zQ9 _ _ _ _ _ _ _
 ·exact zR6 zw3 _ _ _ _ _ _
end Go.Proofs.YtophoepbedlhjaaGreatDoor
namespace Go.Proofs.YtophoepbedlhjaaGreatDoor
open Go Go.RowKit
def sdOk (n:Nat):Stepped→Prop
 | .next m=>n≤m.world.drawn
 | .ended _ _=>True
theorem sdIte {c:Prop} [Decidable c] {a b:Stepped} {n:Nat} (h1:sdOk n a) (h2:sdOk n b):sdOk n (if c then a else b):=by
 split
 ·exact h1
 ·exact h2
theorem zj4 (p:Program) (gs:Array Goroutine) (rest:Rest) (w:World):sdOk w.drawn (look p gs rest w):=by
 unfold look
 split
 ·dsimp only
  refine sdIte trivial ?_
  split
  ·trivial
  ·split
   ·rename_i hx
    exact zr2 hx
   ·trivial
   ·trivial
 ·trivial
theorem zk8 (w:World) (c:Nat):(drain w c).2.drawn=w.drawn:=by
 unfold drain
 split <;> rfl
theorem zD4 (m:Machine) (k:Nat) (t:Timer) (a b:Nat):(retime m k t a b).2.world.drawn=m.world.drawn:=by
 unfold retime
 cases t.chan with
 | none=>rfl
 | some c=>
  have:=zk8 m.world c
  dsimp only
  generalize drain m.world c=x at this ⊢
  obtain⟨a1,a2⟩:=x
  exact this
theorem ze6 (m:Machine) (o:TimerOp) (v:Value) (m2:Machine) (h:timerOp m o = .ok (v,m2)):m.world.drawn=m2.world.drawn:=by
 unfold timerOp at h
 split at h
 ·split at h
  ·cases h;rfl
  ·split at h
   ·split at h
    ·cases h
    ·cases h;rfl
   ·cases h
 ·unfold timerOp.named at h
  split at h
  ·injection h with h
   have:=congrArg (fun q=>q.2.world.drawn) h
   exact(zD4 _ _ _ _ _).symm.trans this
  ·cases h
 ·split at h
  ·rename_i m1 h1
   unfold timerOp.named at h
   have hm:m1.world.drawn=m.world.drawn:=by
    unfold timerOp.opened at h1
    split at h1
    ·split at h1
     ·cases h1;rfl
     ·cases h1
    ·cases h1;rfl
   split at h
   ·injection h with h
    have:=congrArg (fun q=>q.2.world.drawn) h
    exact(hm.symm.trans (zD4 _ _ _ _ _).symm).trans this
   ·cases h
  ·cases h
 ·cases h;rfl
theorem zJ7 (p:Program) (m:Machine) (k:Nat):sdOk m.world.drawn (serve p m k):=by
 unfold serve
 split
 ·trivial
 ·exact Nat.le_refl _
 ·dsimp only
  split
  ·trivial
  ·exact Nat.le_refl _
end Go.Proofs.YtophoepbedlhjaaGreatDoor
namespace Go.Proofs.YtophoepbedlhjaaGreatDoor
open Go Go.RowKit
theorem sdIte2 {c:Prop} [Decidable c] {a b:Stepped × Array MemOp} {n:Nat} (h1:sdOk n a.1) (h2:sdOk n b.1):sdOk n (if c then a else b).1:=by
 split
 ·exact h1
 ·exact h2
theorem zX4 {rest:Rest} {cs:Array CommCase} {w w2:World} (h:waitingAt rest cs w=some w2):w2.drawn=w.drawn:=by
 unfold waitingAt at h
 split at h
 ·split at h
  ·cases h;rfl
  ·cases h
 ·cases h;rfl
theorem zv4 (p:Program) (rest:Rest) (gs:Array Goroutine) (i:Nat) (g:Goroutine) (cs:Array CommCase) (b:Bool) (sh:CommShape) (w:World):sdOk w.drawn (communicate p rest gs i g cs b sh w).1:=by
 unfold communicate
 extract_lets put illMade me other ready pick
 have hput:∀(g:Goroutine) (gs:Array Goroutine) (w2:World) (ops:Array MemOp),(put g gs w2 ops).1 = .next { world:=w2,gs:=gs.setIfInBounds i g,rest }:=fun _ _ _ _=>rfl
 refine sdIte2 trivial (sdIte2 (sdIte2 ?_ (Nat.le_refl _)) ?_)
 ·split
  ·rename_i hx
   exact Nat.le_of_eq (zX4 hx).symm
  ·trivial
 ·split
  ·trivial
  ·rename_i hx
   have h:=zr2 hx
   dsimp only
   split
   ·split
    ·rename_i hx2
     exact Nat.le_trans h (zr2 hx2)
    ·trivial
   ·exact h
   ·exact h
   ·split
    ·exact h
    ·split
     ·rename_i hx2
      exact Nat.le_trans h (zr2 hx2)
     ·trivial
   ·exact h
   ·exact h
   ·trivial
end Go.Proofs.YtophoepbedlhjaaGreatDoor
namespace Go.Proofs.YtophoepbedlhjaaGreatDoor
open Go Go.RowKit
theorem zC9 (p:Program) (m:Machine) (i:Nat) (li:Bool):sdOk m.world.drawn (runT p m i li).1:=by
 unfold runT
 extract_lets rest world
 split
 rename_i g gs _
 extract_lets wake fn pos s ops done
 have h:m.world.drawn≤(gsW s).drawn:=zG7 p (i == 0) g m.world li
 clear_value s
 cases s with
 | ended o w es=>trivial
 | comm g2 cases_ b sh w es=>
  have h2:=zv4 p rest gs i g2 cases_ b sh w
  dsimp only
  generalize communicate p rest gs i g2 cases_ b sh w=x at h2
  obtain⟨r,more⟩:=x
  cases r with
  | next m2=>exact Nat.le_trans h h2
  | ended o w=>trivial
 | go g2 w es=>exact h
 | spawn g2 ch w es=>exact h
 | count g2 w es=>
  dsimp only[done]
  refine sdIte trivial ?_
  exact h
 | alone g2 on w es=>exact h
 | collect g2 w es=>
  have h2:=zj4 p (gs.setIfInBounds i g2) rest w
  show sdOk _ (look p (gs.setIfInBounds i g2) rest w)
  generalize look p (gs.setIfInBounds i g2) rest w=x at h2
  cases x with
  | next m2=>exact Nat.le_trans h h2
  | ended o w=>trivial
 | watch g2 w es=>exact h
 | newcoro g2 c d w es=>exact h
 | coroswitch g2 c ex w es=>
  dsimp only[done]
  split
  ·exact h
  ·split
   ·rename_i hx
    have h2:=congrArg (fun q=>(gsW q).drawn) hx
    simp only[zv3] at h2
    exact Nat.le_trans h (Nat.le_of_eq h2)
   ·trivial
  ·trivial
 | timer g2 op w es=>
  dsimp only[done]
  split
  ·rename_i hx
   exact Nat.le_trans h (Nat.le_of_eq (ze6 _ _ _ _ hx))
  ·split
   ·rename_i hx
    have h2:=congrArg (fun q=>(gsW q).drawn) hx
    simp only[zv3] at h2
    exact Nat.le_trans h (Nat.le_of_eq h2)
   ·trivial
  ·trivial
  ·trivial
end Go.Proofs.YtophoepbedlhjaaGreatDoor
namespace Go.Proofs.YtophoepbedlhjaaGreatDoor
open Go Go.RowKit
def mvOk (n:Nat):Move→Prop
 | .goroutine m _=>n≤m.world.drawn
 | .machine s _=>sdOk n s
theorem mvIte {c:Prop} [Decidable c] {a b:Move} {n:Nat} (h1:mvOk n a) (h2:mvOk n b):mvOk n (if c then a else b):=by
 split
 ·exact h1
 ·exact h2
theorem sdOk.le {n k:Nat} (h:n≤k) {s:Stepped} (hs:sdOk k s):sdOk n s:=by
 cases s with
 | next m=>exact Nat.le_trans h hs
 | ended o w=>trivial
theorem zC3 (p:Program) (m:Machine):mvOk m.world.drawn (askOn p m):=by
 unfold askOn
 extract_lets mono rs ds pick
 have hp:∀m2:Machine,m.world.drawn≤m2.world.drawn→mvOk m.world.drawn (pick m2):=fun m2 h2=>by
  show mvOk _ (match (choose (.sched rs.length)).run p m2.world with
   | .halt _ w=>_
   | .ok k world=>_)
  split
  ·trivial
  ·rename_i hx
   have h3:=Nat.le_trans h2 (zr2 hx)
   refine mvIte h3 ?_
   split
   ·trivial
   ·rename_i hx2
    exact Nat.le_trans h3 (zr2 hx2)
 clear_value pick
 clear_value rs ds
 split
 ·trivial
 ·rename_i hx
  have h:=zr2 hx
  dsimp only
  refine mvIte (sdOk.le h (zJ7 _ _ _)) ?_
  cases rs
  ·dsimp only
   split
   ·exact h
   ·refine mvIte h ?_
    split <;> trivial
  ·dsimp only
   split
   ·exact hp _ h
   ·split
    ·trivial
    ·rename_i hx2
     exact hp _ (Nat.le_trans h (zr2 hx2))
    ·rename_i hx2
     exact Nat.le_trans h (zr2 hx2)
    ·rename_i hx2
     exact hp _ (Nat.le_trans h (zr2 hx2))
theorem mvOk.le {n k:Nat} (h:n≤k) {s:Move} (hs:mvOk k s):mvOk n s:=by
 cases s with
 | goroutine m i=>exact Nat.le_trans h hs
 | machine s o=>exact sdOk.le h hs
theorem za11 {p:Program} {gs:Array Goroutine} {rest:Rest} {w:World} {m:Machine} (h:look p gs rest w = .next m):w.drawn≤m.world.drawn:=by
 have h2:=zj4 p gs rest w
 rw[h] at h2
 exact h2
theorem zS5 (p:Program) (m:Machine):mvOk m.world.drawn (ask p m):=by
 unfold ask
 refine mvIte ?_ (zC3 p m)
 split
 ·trivial
 ·rename_i hx
  have h:=zr2 hx
  split
  ·rename_i hx2
   exact mvOk.le (Nat.le_trans h (za11 hx2)) (zC3 p _)
  ·exact sdOk.le h (zj4 _ _ _ _)
 ·rename_i hx
  exact mvOk.le (zr2 hx) (zC3 _ _)
theorem zN9 (p:Program) (m:Machine):mvOk m.world.drawn (move p m):=by
 unfold move
 split
 ·exact mvIte (Nat.le_refl _) trivial
 ·split
  ·exact mvIte (Nat.le_refl _) (zS5 p _)
  ·exact zS5 p m
theorem zx9 {p:Program} {m m2:Machine} (h:step p m = .next m2):m.world.drawn≤m2.world.drawn:=by
 unfold step stepT at h
 have hm:=zN9 p m
 generalize move p m=x at hm h
 cases x with
 | goroutine m3 i=>
  have h2:=zC9 p m3 i true
  dsimp only at h
  rw[h] at h2
  exact Nat.le_trans hm h2
 | machine s o=>
  dsimp only at h
  rw[h] at hm
  exact hm
theorem zF7 {P:Program} {m m2:Machine} (h:Steps P m m2):m.world.drawn≤m2.world.drawn:=by
 obtain⟨n,hn⟩:=h
 induction n generalizing m with
 | zero=>simp[runN] at hn;rw[hn];exact Nat.le_refl _
 | succ n ih=>
  simp only[runN] at hn
  cases hs:step P m with
  | next m'=>rw[hs] at hn;exact Nat.le_trans (zx9 hs) (ih hn)
  | ended o w=>rw[hs] at hn;cases hn
theorem zn8 {P:Program} {f:FuncId} {args:Array Value} {w:World} {R:Ending→World→Prop} (hR:∀e w',R e w'→∃v,e = .returned v) (h:Calls P f args w R):Calls P f args w fun e w'=>R e w'∧w.drawn≤w'.drawn:=fun cs=>by
 obtain⟨e,w',fr,h1,h2,h3⟩:=h cs
 obtain⟨v,rfl⟩:=hR e w' h1
 exact⟨_,w',fr,⟨h1,zF7 h2⟩,h2,h3⟩
end Go.Proofs.YtophoepbedlhjaaGreatDoor
