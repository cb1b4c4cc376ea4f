/- Reading words one after another, plain: what a line of each kind is read as. -/
import Derived.Test.YtophoepbedlhjaaGreatDoorQat
import Derived.Test.YtophoepbedlhjaaGreatDoorQar
import Derived.Test.YtophoepbedlhjaaGreatDoorQau
set_option linter.unusedSimpArgs false
set_option linter.unusedVariables false
-- NEWM
namespace Go.Proofs.YtophoepbedlhjaaGreatDoor
open Go Go.RowKit
set_option maxRecDepth 100000
structure Nt where
 st:List UInt8
 no:Int
 at_:Int
 kd:Int
 pr:List UInt8
 jb:List UInt8
 sp:List UInt8
 n:Int
 of_:List UInt8
 ot:Int
deriving DecidableEq
def noR (x:Nt):List CV:=[T x.st,I x.no,I x.at_,I x.kd,T x.pr,T x.jb,T x.sp,I x.n,T x.of_,I x.ot]
abbrev noA (x:Nt):AV:=.a ((noR x).map .c)
structure NtS (x:Nt):Prop where
 st:x.st.length≤1000000
 pr:x.pr.length≤1000000
 jb:x.jb.length≤1000000
 sp:x.sp.length≤1000000
 of_:x.of_.length≤1000000
def uP (k:Int):Bool:=decide (k≠7)
def uJ (k:Int):Bool:=decide (k=1)
def uS (k:Int):Bool:=decide (k=5)
def uU (k:Int):Bool:=decide (k=7)
def uM (k:Int):Int:=if k=1∨k=2 then 1000 else if k=5∨k=6 then 100000000 else 0
def usA (k:Int):AV:=.a [.c (B (uP k)),.c (B (uJ k)),.c (B (uS k)),.c (B (uU k)),.c (I (uM k))]
theorem zI6 (k:Int):ACalls Tryz.prog 164 [.c (I k)] [] fun u H=>u=usA k∧H = []:=by
 refine zf (N:=23) Tryz.func164 rfl rfl (by simp) fun E hE=>?_
 by_cases h7:k=7
 ·subst h7
  repeat' (first
   | refine ZY ?_
   | refine zo rfl (by assumption) ?_|refine zm rfl (by assumption) ?_|refine zl rfl (fun _=>?_) (fun _=>?_)|refine zj rfl (fun _=>?_) (fun _=>?_)
   | (refine zc ?_;refine WE ?_))
  exact zA6 [] _ rfl (KK (t:=233) rfl) rfl (Cells.box rfl) (by first|(simp;done)|exact Nat.le_refl 5) (by(try simp only[nm,putL,Nat.reduceAdd,cellsOf,cvOf]) <;> rfl) (by decide) (ZNK rfl) (fun _=>C0 rfl) (fun _=>.nil) ⟨rfl,rfl⟩
 by_cases h1:k=1
 ·subst h1
  repeat' (first
   | refine ZY ?_
   | refine zo rfl (by assumption) ?_|refine zm rfl (by assumption) ?_|refine zl rfl (fun _=>?_) (fun _=>?_)|refine zj rfl (fun _=>?_) (fun _=>?_)
   | (refine zc ?_;refine WE ?_))
  exact zA6 [] _ rfl (KK (t:=233) rfl) rfl (Cells.box rfl) (by first|(simp;done)|exact Nat.le_refl 5) (by(try simp only[nm,putL,Nat.reduceAdd,cellsOf,cvOf]) <;> rfl) (by decide) (ZNK rfl) (fun _=>C0 rfl) (fun _=>.nil) ⟨rfl,rfl⟩
 by_cases h2:k=2
 ·subst h2
  repeat' (first
   | refine ZY ?_
   | refine zo rfl (by assumption) ?_|refine zm rfl (by assumption) ?_|refine zl rfl (fun _=>?_) (fun _=>?_)|refine zj rfl (fun _=>?_) (fun _=>?_)
   | (refine zc ?_;refine WE ?_))
  exact zA6 [] _ rfl (KK (t:=233) rfl) rfl (Cells.box rfl) (by first|(simp;done)|exact Nat.le_refl 5) (by(try simp only[nm,putL,Nat.reduceAdd,cellsOf,cvOf]) <;> rfl) (by decide) (ZNK rfl) (fun _=>C0 rfl) (fun _=>.nil) ⟨rfl,rfl⟩
 by_cases h5:k=5
 ·subst h5
  repeat' (first
   | refine ZY ?_
   | refine zo rfl (by assumption) ?_|refine zm rfl (by assumption) ?_|refine zl rfl (fun _=>?_) (fun _=>?_)|refine zj rfl (fun _=>?_) (fun _=>?_)
   | (refine zc ?_;refine WE ?_))
  exact zA6 [] _ rfl (KK (t:=233) rfl) rfl (Cells.box rfl) (by first|(simp;done)|exact Nat.le_refl 5) (by(try simp only[nm,putL,Nat.reduceAdd,cellsOf,cvOf]) <;> rfl) (by decide) (ZNK rfl) (fun _=>C0 rfl) (fun _=>.nil) ⟨rfl,rfl⟩
 by_cases h6:k=6
 ·subst h6
  repeat' (first
   | refine ZY ?_
   | refine zo rfl (by assumption) ?_|refine zm rfl (by assumption) ?_|refine zl rfl (fun _=>?_) (fun _=>?_)|refine zj rfl (fun _=>?_) (fun _=>?_)
   | (refine zc ?_;refine WE ?_))
  exact zA6 [] _ rfl (KK (t:=233) rfl) rfl (Cells.box rfl) (by first|(simp;done)|exact Nat.le_refl 5) (by(try simp only[nm,putL,Nat.reduceAdd,cellsOf,cvOf]) <;> rfl) (by decide) (ZNK rfl) (fun _=>C0 rfl) (fun _=>.nil) ⟨rfl,rfl⟩
 repeat' (first
  | refine ZY ?_
  | refine zo rfl (by assumption) ?_|refine zm rfl (by assumption) ?_|refine zl rfl (fun _=>?_) (fun _=>?_)|refine zj rfl (fun _=>?_) (fun _=>?_)
  | (refine zc ?_;refine WE ?_))
 exact zA6 [] _ rfl (KK (t:=233) rfl) rfl (Cells.box rfl) (by first|(simp;done)|exact Nat.le_refl 5) (by(try simp only[nm,putL,Nat.reduceAdd,cellsOf,cvOf]) <;> rfl) (by decide) (ZNK rfl) (fun _=>C0 rfl) (fun _=>.nil) ⟨by simp[usA,uP,uJ,uS,uU,uM,h7,h1,h2,h5,h6],rfl⟩
def ntF (x:Nt):Int:=
 if keyB x.st=false then 5
 else if outB x.no 1 1000000=true∨moB x.at_=false then 1
 else if outB x.kd 1 7=true then 4
 else if (uP x.kd=true∧keyB x.pr=false)∨(uJ x.kd=true∧keyB x.jb=false)∨(uS x.kd=true∧keyB x.sp=false)∨(uU x.kd=true∧keyB x.of_=false) then 5
 else if (0 < uM x.kd∧outB x.n 1 (uM x.kd)=true)∨(uU x.kd=true∧outB x.ot 1 1000000=true) then 1
 else if (uP x.kd=false∧¬x.pr = [])∨(uJ x.kd=false∧¬x.jb = [])∨(uS x.kd=false∧¬x.sp = [])∨(uM x.kd=0∧¬x.n=0)∨(uU x.kd=false∧(¬x.of_ = []∨¬x.ot=0)) then 3
 else 0
theorem sB {b:Bool} {X:Prop} (h:X):b=true∨(b=false∧X):=by
 cases b
 ·exact .inr ⟨rfl,h⟩
 ·exact .inl rfl
theorem zY14 (k:Int):(uP k=true∧uJ k=true∧uS k=false∧uU k=false)∨(uP k=true∧uJ k=false∧uS k=false∧uU k=false)∨(uP k=true∧uJ k=false∧uS k=true∧uU k=false)∨(uP k=false∧uJ k=false∧uS k=false∧uU k=true):=by
 by_cases h7:k=7
 ·subst h7;simp[uP,uJ,uS,uU]
 by_cases h1:k=1
 ·subst h1;simp[uP,uJ,uS,uU]
 by_cases h5:k=5
 ·subst h5;simp[uP,uJ,uS,uU]
 simp[uP,uJ,uS,uU,h7,h1,h5]
set_option maxHeartbeats 4000000 in
theorem zX13 (x:Nt) (hx:NtS x):ACalls Tryz.prog 130 [noA x] [] fun u H=>u = .c (I (ntF x))∧H = []:=by
 obtain⟨st,no,at_,kn,pr,jb,sp,n,of_,ot⟩:=x
 obtain⟨b1,b2,b3,b4,b5⟩:=hx
 simp only at b1 b2 b3 b4 b5
 show ACalls _ _ [.a [.c (T st),.c (I no),.c (I at_),.c (I kn),.c (T pr),.c (T jb),.c (T sp),.c (I n),.c (T of_),.c (I ot)]] [] _
 obtain⟨ks0,hks0⟩:∃q,keyB st=q:=⟨_,rfl⟩
 obtain⟨no1,hno⟩:∃q,outB no 1 1000000=q:=⟨_,rfl⟩
 obtain⟨at1,hat⟩:∃q,moB at_=q:=⟨_,rfl⟩
 obtain⟨kd1,hkd⟩:∃q,outB kn 1 7=q:=⟨_,rfl⟩
 obtain⟨kp,hkp⟩:∃q,keyB pr=q:=⟨_,rfl⟩
 obtain⟨kj,hkj⟩:∃q,keyB jb=q:=⟨_,rfl⟩
 obtain⟨ks,hks⟩:∃q,keyB sp=q:=⟨_,rfl⟩
 obtain⟨ko,hko⟩:∃q,keyB of_=q:=⟨_,rfl⟩
 obtain⟨oo,hoo⟩:∃q,outB ot 1 1000000=q:=⟨_,rfl⟩
 obtain⟨np,hnp⟩:∃q,decide (pr≠[])=q:=⟨_,rfl⟩
 obtain⟨nj,hnj⟩:∃q,decide (jb≠[])=q:=⟨_,rfl⟩
 obtain⟨ns,hns⟩:∃q,decide (sp≠[])=q:=⟨_,rfl⟩
 obtain⟨nf,hnf⟩:∃q,decide (of_≠[])=q:=⟨_,rfl⟩
 refine zf (N:=139) Tryz.func130 rfl rfl (by simp) fun E hE=>?_
 refine WA ?_
 refine WR ?_
 refine ze rfl (efk (c:=fun _=>zG5 _ (by omega))) ?_
 rintro _ _ ⟨_,_,_,⟨rfl,rfl⟩,hF,hH⟩
 rw[hks0] at hF
 (refine NST hF hH ?_;clear hF hH;rintro rfl rfl)
 refine WE ?_
 cases ks0
 ·refine zb rfl ?_
  refine WA ?_
  exact arz (q:=⟨congrArg (fun z=>AV.c (I z)) (by simp[ntF,hks0]),rfl⟩)
 refine za rfl ?_
 refine ZZ ?_
 cases no1
 rotate_left
 ·refine WR ?_
  refine ze rfl (efk (c:=fun _=>zY8 _ _ _)) ?_
  rintro _ _ ⟨_,_,_,⟨rfl,rfl⟩,hF,hH⟩
  rw[hno] at hF
  (refine NST hF hH ?_;clear hF hH;rintro rfl rfl)
  refine WO ?_
  first|refine ZS ?_|(refine G1 rfl ?_;refine ze rfl (efk (c:=fun _=>zw3 _)) ?_;rintro _ _ ⟨_,_,_,⟨rfl,rfl⟩,hF,hH⟩;rw[hat] at hF;(refine NST hF hH ?_;clear hF hH;rintro rfl rfl))|skip
  refine WE ?_
  refine zb rfl ?_
  refine WA ?_
  exact arz (q:=⟨congrArg (fun z=>AV.c (I z)) (by simp[ntF,hks0,hno]),rfl⟩)
 cases at1
 ·refine WR ?_
  refine ze rfl (efk (c:=fun _=>zY8 _ _ _)) ?_
  rintro _ _ ⟨_,_,_,⟨rfl,rfl⟩,hF,hH⟩
  rw[hno] at hF
  (refine NST hF hH ?_;clear hF hH;rintro rfl rfl)
  refine WO ?_
  first|refine ZS ?_|(refine G1 rfl ?_;refine ze rfl (efk (c:=fun _=>zw3 _)) ?_;rintro _ _ ⟨_,_,_,⟨rfl,rfl⟩,hF,hH⟩;rw[hat] at hF;(refine NST hF hH ?_;clear hF hH;rintro rfl rfl))|skip
  refine WE ?_
  refine zb rfl ?_
  refine WA ?_
  exact arz (q:=⟨congrArg (fun z=>AV.c (I z)) (by simp[ntF,hks0,hno,hat]),rfl⟩)
 refine WR ?_
 refine ze rfl (efk (c:=fun _=>zY8 _ _ _)) ?_
 rintro _ _ ⟨_,_,_,⟨rfl,rfl⟩,hF,hH⟩
 rw[hno] at hF
 (refine NST hF hH ?_;clear hF hH;rintro rfl rfl)
 refine WO ?_
 first|refine ZS ?_|(refine G1 rfl ?_;refine ze rfl (efk (c:=fun _=>zw3 _)) ?_;rintro _ _ ⟨_,_,_,⟨rfl,rfl⟩,hF,hH⟩;rw[hat] at hF;(refine NST hF hH ?_;clear hF hH;rintro rfl rfl))|skip
 refine WE ?_
 refine za rfl ?_
 refine WR ?_
 refine ze rfl (efk (c:=fun _=>zY8 _ _ _)) ?_
 rintro _ _ ⟨_,_,_,⟨rfl,rfl⟩,hF,hH⟩
 rw[hkd] at hF
 (refine NST hF hH ?_;clear hF hH;rintro rfl rfl)
 refine WE ?_
 cases kd1
 rotate_left
 ·refine zb rfl ?_
  refine WA ?_
  exact arz (q:=⟨congrArg (fun z=>AV.c (I z)) (by simp[ntF,hks0,hno,hat,hkd]),rfl⟩)
 refine za rfl ?_
 refine ZZ ?_
 have h4:=zY14 kn
 obtain⟨P,hP⟩:∃q,uP kn=q:=⟨_,rfl⟩
 obtain⟨J,hJ⟩:∃q,uJ kn=q:=⟨_,rfl⟩
 obtain⟨S,hS⟩:∃q,uS kn=q:=⟨_,rfl⟩
 obtain⟨U,hU⟩:∃q,uU kn=q:=⟨_,rfl⟩
 obtain⟨M,hM⟩:∃q,uM kn=q:=⟨_,rfl⟩
 rw[hP,hJ,hS,hU] at h4
 obtain⟨on,hon⟩:∃q,outB n 1 M=q:=⟨_,rfl⟩
 obtain⟨q8,h8⟩:∃q,(P && !kp || J && !kj || S && !ks || U && !ko)=q:=⟨_,rfl⟩
 obtain⟨q10,h10⟩:∃q,(decide (0 < M) && on || U && oo)=q:=⟨_,rfl⟩
 obtain⟨q12,h12⟩:∃q,(!P && np || !J && nj || !S && ns || decide (M=0) && decide (¬n=0) || !U && (nf || decide (¬ot=0)))=q:=⟨_,rfl⟩
 have e0:ntF ⟨st,no,at_,kn,pr,jb,sp,n,of_,ot⟩=if q8=true then 5 else if q10=true then 1 else if q12=true then 3 else 0:=by
  unfold ntF
  simp only
  rw[if_neg (by rw[hks0];decide),if_neg (by rw[hno,hat];decide),if_neg (by rw[hkd];decide),hkp,hkj,hks,hko,hP,hJ,hS,hU,hM,hon,hoo,←h8,←h10,←h12,←hnp,←hnj,←hns,←hnf]
  simp only[Bool.or_eq_true,Bool.and_eq_true,Bool.not_eq_true',decide_eq_true_eq,or_assoc,ne_eq]
 rw[e0]
 clear e0 hks0 hno hat hkd
 refine WR ?_
 refine ze rfl (efk (c:=fun _=>zI6 kn)) ?_
 rintro _ _ ⟨_,_,_,⟨rfl,rfl⟩,hF,hH⟩
 rw[usA,hP,hJ,hS,hU,hM] at hF
 (refine NST hF hH ?_;clear hF hH;rintro rfl rfl)
 refine WE ?_
 refine zE1 (fun F H=>F = [(1,.p 0 0 0),(3,.p 1 0 0),(26,.c (B q8))]∧H = [.box [.c (T st),.c (I no),.c (I at_),.c (I kn),.c (T pr),.c (T jb),.c (T sp),.c (I n),.c (T of_),.c (I ot)],.box [.c (B P),.c (B J),.c (B S),.c (B U),.c (I M)]]) ?_ ?_ zV2
 ·subst h8
  have hl:(P=true∧kp=false)∨(P=true∧kp=true∧((J=true∧S=false∧U=false∧(kj=true∨(kj=false∧True)))∨(J=false∧S=false∧U=false)∨(J=false∧S=true∧U=false∧(ks=true∨(ks=false∧True)))))∨(P=false∧J=false∧S=false∧U=true∧(ko=true∨(ko=false∧True))):=by
   rcases h4 with⟨h1,h2,h3,h4⟩|⟨h1,h2,h3,h4⟩|⟨h1,h2,h3,h4⟩|⟨h1,h2,h3,h4⟩
   ·cases kp
    ·exact .inl ⟨h1,rfl⟩
    ·exact .inr (.inl ⟨h1,rfl,.inl ⟨h2,h3,h4,sB trivial⟩⟩)
   ·cases kp
    ·exact .inl ⟨h1,rfl⟩
    ·exact .inr (.inl ⟨h1,rfl,.inr (.inl ⟨h2,h3,h4⟩)⟩)
   ·cases kp
    ·exact .inl ⟨h1,rfl⟩
    ·exact .inr (.inl ⟨h1,rfl,.inr (.inr ⟨h2,h3,h4,sB trivial⟩)⟩)
   ·exact .inr (.inr ⟨h1,h2,h3,h4,sB trivial⟩)
  clear h4
  rcases hl with⟨rfl,rfl⟩|⟨rfl,rfl,⟨rfl,rfl,rfl,rfl|⟨rfl,-⟩⟩|⟨rfl,rfl,rfl⟩|⟨rfl,rfl,rfl,rfl|⟨rfl,-⟩⟩⟩|⟨rfl,rfl,rfl,rfl,rfl|⟨rfl,-⟩⟩
  all_goals (
   refine WR ?_
   first|refine ZS ?_|(refine G1 rfl ?_;refine ze rfl (efk (c:=fun _=>zG5 _ (by omega))) ?_;rintro _ _ ⟨_,_,_,⟨rfl,rfl⟩,hF,hH⟩;rw[hkp] at hF;(refine NST hF hH ?_;clear hF hH;rintro rfl rfl))|skip
   refine WO ?_
   first|refine ZS ?_|(refine G1 rfl ?_;refine ze rfl (efk (c:=fun _=>zG5 _ (by omega))) ?_;rintro _ _ ⟨_,_,_,⟨rfl,rfl⟩,hF,hH⟩;rw[hkj] at hF;(refine NST hF hH ?_;clear hF hH;rintro rfl rfl))|skip
   refine WO ?_
   first|refine ZS ?_|(refine G1 rfl ?_;refine ze rfl (efk (c:=fun _=>zG5 _ (by omega))) ?_;rintro _ _ ⟨_,_,_,⟨rfl,rfl⟩,hF,hH⟩;rw[hks] at hF;(refine NST hF hH ?_;clear hF hH;rintro rfl rfl))|skip
   refine WO ?_
   first|refine ZS ?_|(refine G1 rfl ?_;refine ze rfl (efk (c:=fun _=>zG5 _ (by omega))) ?_;rintro _ _ ⟨_,_,_,⟨rfl,rfl⟩,hF,hH⟩;rw[hko] at hF;(refine NST hF hH ?_;clear hF hH;rintro rfl rfl))|skip
   refine WE ?_
   refine zZ2 [some 0,some 1] (fun _=>_) (fun _=>_) (by decide) (ZNL hE) ?_ ?_ (fun _=>⟨rfl,rfl⟩)
   ·exact fun _=>.cons rfl (.p rfl) (.cons rfl (.p rfl) (.cons rfl (.c rfl) .nil))
   ·exact ZCH)
 rintro F H ⟨rfl,rfl⟩
 refine ZZ ?_
 cases q8
 rotate_left
 ·refine zb rfl ?_
  refine WA ?_
  exact arz (q:=⟨rfl,rfl⟩)
 refine za rfl ?_
 refine ZZ ?_
 clear h8
 refine zE1 (fun F H=>F = [(1,.p 0 0 0),(3,.p 1 0 0),(65,.c (B q10))]∧H = [.box [.c (T st),.c (I no),.c (I at_),.c (I kn),.c (T pr),.c (T jb),.c (T sp),.c (I n),.c (T of_),.c (I ot)],.box [.c (B P),.c (B J),.c (B S),.c (B U),.c (I M)]]) ?_ ?_ zV2
 ·subst h10
  clear h12 h4
  by_cases hM0:0 < M
  all_goals (cases on <;> cases U <;> cases oo)
  all_goals (
   refine WR ?_
   first|refine ZS ?_|(refine G1 rfl ?_;refine ze rfl (efk (c:=fun _=>zY8 _ _ _)) ?_;rintro _ _ ⟨_,_,_,⟨rfl,rfl⟩,hF,hH⟩;rw[hon] at hF;(refine NST hF hH ?_;clear hF hH;rintro rfl rfl))|skip
   refine WO ?_
   first|refine ZS ?_|(refine G1 rfl ?_;refine ze rfl (efk (c:=fun _=>zY8 _ _ _)) ?_;rintro _ _ ⟨_,_,_,⟨rfl,rfl⟩,hF,hH⟩;rw[hoo] at hF;(refine NST hF hH ?_;clear hF hH;rintro rfl rfl))|skip
   refine WE ?_
   refine zZ2 [some 0,some 1] (fun _=>_) (fun _=>_) (by decide) (ZNL hE) ?_ ?_ (fun _=>⟨rfl,rfl⟩)
   ·exact fun _=>.cons rfl (.p rfl) (.cons rfl (.p rfl) (.cons rfl (.c (by first|rfl|(simp[hM0];done))) .nil))
   ·exact ZCH)
 rintro F H ⟨rfl,rfl⟩
 refine ZZ ?_
 cases q10
 rotate_left
 ·refine zb rfl ?_
  refine WA ?_
  exact arz (q:=⟨rfl,rfl⟩)
 refine za rfl ?_
 refine ZZ ?_
 clear h10
 refine zE1 (fun F H=>F = [(1,.p 0 0 0),(3,.p 1 0 0),(85,.c (B q12))]∧H = [.box [.c (T st),.c (I no),.c (I at_),.c (I kn),.c (T pr),.c (T jb),.c (T sp),.c (I n),.c (T of_),.c (I ot)],.box [.c (B P),.c (B J),.c (B S),.c (B U),.c (I M)]]) ?_ ?_ zV2
 ·subst h12
  have hR:nf=true∨(nf=false∧(¬ot=0∨ot=0)):=sB (Decidable.em (ot=0)).symm
  have hY:(M=0∧¬n=0)∨((M=0∧n=0)∨¬M=0):=by omega
  have hX:((M=0∧¬n=0)∨(((M=0∧n=0)∨¬M=0)∧(nf=true∨(nf=false∧(¬ot=0∨ot=0))))):=hY.imp id fun h=>⟨h,hR⟩
  have hl:(P=true∧J=true∧S=false∧U=false∧(ns=true∨(ns=false∧((M=0∧¬n=0)∨(((M=0∧n=0)∨¬M=0)∧(nf=true∨(nf=false∧(¬ot=0∨ot=0))))))))∨(P=true∧J=false∧S=false∧U=false∧(nj=true∨(nj=false∧(ns=true∨(ns=false∧((M=0∧¬n=0)∨(((M=0∧n=0)∨¬M=0)∧(nf=true∨(nf=false∧(¬ot=0∨ot=0))))))))))∨(P=true∧J=false∧S=true∧U=false∧(nj=true∨(nj=false∧((M=0∧¬n=0)∨(((M=0∧n=0)∨¬M=0)∧(nf=true∨(nf=false∧(¬ot=0∨ot=0))))))))∨(P=false∧J=false∧S=false∧U=true∧(np=true∨(np=false∧(nj=true∨(nj=false∧(ns=true∨(ns=false∧((M=0∧¬n=0)∨((M=0∧n=0)∨¬M=0))))))))):=by
   rcases h4 with⟨h1,h2,h3,h4⟩|⟨h1,h2,h3,h4⟩|⟨h1,h2,h3,h4⟩|⟨h1,h2,h3,h4⟩
   ·exact .inl ⟨h1,h2,h3,h4,sB hX⟩
   ·exact .inr (.inl ⟨h1,h2,h3,h4,sB (sB hX)⟩)
   ·exact .inr (.inr (.inl ⟨h1,h2,h3,h4,sB hX⟩))
   ·exact .inr (.inr (.inr ⟨h1,h2,h3,h4,sB (sB (sB hY))⟩))
  clear h4 hR hX hY
  rcases hl with⟨rfl,rfl,rfl,rfl,rfl|⟨rfl,⟨hM0,hn0⟩|⟨⟨hM0,hn0⟩|hM0,rfl|⟨rfl,hot|hot⟩⟩⟩⟩|⟨rfl,rfl,rfl,rfl,rfl|⟨rfl,rfl|⟨rfl,⟨hM0,hn0⟩|⟨⟨hM0,hn0⟩|hM0,rfl|⟨rfl,hot|hot⟩⟩⟩⟩⟩|⟨rfl,rfl,rfl,rfl,rfl|⟨rfl,⟨hM0,hn0⟩|⟨⟨hM0,hn0⟩|hM0,rfl|⟨rfl,hot|hot⟩⟩⟩⟩|⟨rfl,rfl,rfl,rfl,rfl|⟨rfl,rfl|⟨rfl,rfl|⟨rfl,⟨hM0,hn0⟩|⟨hM0,hn0⟩|hM0⟩⟩⟩⟩
  all_goals (
   refine ZR ?_
   iterate 6 refine WX1 ?_
   first|refine ZP (za1 (b:=[]) hnp rfl Tryz.underlying9 rfl rfl) ?_|refine ZS ?_
   iterate 8 refine WX1 ?_
   first|refine ZP (za1 (b:=[]) hnj rfl Tryz.underlying9 rfl rfl) ?_|refine ZS ?_
   iterate 9 refine WX1 ?_
   first|refine ZP (za1 (b:=[]) hns rfl Tryz.underlying9 rfl rfl) ?_|refine ZS ?_
   iterate 19 refine WX1 ?_
   first|refine ZP (za1 (b:=[]) hnf rfl Tryz.underlying9 rfl rfl) ?_|refine ZS ?_
   refine WE ?_
   refine zZ2 [some 0,some 1] (fun _=>_) (fun _=>_) (by decide) (ZNL hE) ?_ ?_ (fun _=>⟨rfl,rfl⟩)
   ·exact fun _=>.cons rfl (.p rfl) (.cons rfl (.p rfl) (.cons rfl (.c (by first|rfl|(simp[hM0,hn0,hot];done)|(simp[hM0,hn0];done)|(simp[hM0,hot];done)|(simp[hM0];done))) .nil))
   ·exact ZCH)
 rintro F H ⟨rfl,rfl⟩
 refine ZZ ?_
 cases q12
 rotate_left
 ·refine zb rfl ?_
  refine WA ?_
  exact arz (q:=⟨rfl,rfl⟩)
 refine za rfl ?_
 refine WA ?_
 exact arz (q:=⟨rfl,rfl⟩)
end Go.Proofs.YtophoepbedlhjaaGreatDoor
namespace Go.Proofs.YtophoepbedlhjaaGreatDoor
open Go Go.RowKit
abbrev kwL:List (List UInt8):=[[],[98,101,103,105,110],[108,97,121,101,114],[101,110,100],[102,97,105,108],[108,111,97,100],[117,115,101],[117,110,100,111]]
def kwI (w:List UInt8):Int:=match kwL.idxOf? w with|some k=>(k:Int)|none=>-1
def kwA (k:Int):List UInt8:=(kwL[k.toNat]?).getD []
theorem zu12 (k:Int) (h:1≤k∧k≤7):kwI (kwA k)=k∧32∉kwA k∧10∉kwA k∧kwA k≠[]∧(kwA k).length≤5:=by
 rcases(show k=1∨k=2∨k=3∨k=4∨k=5∨k=6∨k=7 by omega) with rfl|rfl|rfl|rfl|rfl|rfl|rfl <;> decide
theorem zz17 (w:List UInt8):-1≤kwI w∧kwI w≤7:=by
 unfold kwI
 split
 ·rename_i k hk
  obtain⟨h1,_⟩:=List.findIdx?_eq_some_iff_getElem.1 (show List.findIdx? (· == w) kwL=some k from hk)
  have:k < 8:=h1
  omega
 ·omega
def argF (st:List UInt8) (no a k:Int) (r:List (List UInt8)):Option Nt:=
 if k=1 then match r with
  | [p,j,n]=>(numF n).map fun n=>⟨st,no,a,1,p,j,[],n,[],0⟩
  | _=>none
 else if k=2 then match r with
  | [p,n]=>(numF n).map fun n=>⟨st,no,a,2,p,[],[],n,[],0⟩
  | _=>none
 else if k=3 then match r with
  | [p]=>some ⟨st,no,a,3,p,[],[],0,[],0⟩
  | _=>none
 else if k=4 then match r with
  | [p]=>some ⟨st,no,a,4,p,[],[],0,[],0⟩
  | _=>none
 else if k=5 then match r with
  | [p,s,n]=>(numF n).map fun n=>⟨st,no,a,5,p,[],s,n,[],0⟩
  | _=>none
 else if k=6 then match r with
  | [p,n]=>(numF n).map fun n=>⟨st,no,a,6,p,[],[],n,[],0⟩
  | _=>none
 else if k=7 then match r with
  | [o,n]=>(numF n).map fun n=>⟨st,no,a,7,[],[],[],0,o,n⟩
  | _=>none
 else none
def rwF (l:List (List UInt8)):Option Nt:=match l with
 | st :: no :: a :: k :: r=>match numF no,numF a with
  | some no,some a=>argF st no a (kwI k) r
  | _,_=>none
 | _=>none
def rnF (s:List UInt8):Option Nt:=(wrdsF s).bind rwF
def txW (x:Nt):List (List UInt8):=[x.st,Lib.itoa x.no,Lib.itoa x.at_,kwA x.kd]++[x.pr,x.jb,x.sp].filter (fun s=>decide (s≠[]))++(if 0 < uM x.kd then [Lib.itoa x.n] else [])++(if uU x.kd=true then [x.of_,Lib.itoa x.ot] else [])
def txF (l:List Nt):List UInt8:=(l.map fun x=>jnF (txW x)).flatten
theorem zS2 {x:Nt} (h:ntF x=0):keyB x.st=true∧(1≤x.no∧x.no≤1000000)∧(0≤x.at_∧x.at_≤345686399999)∧(1≤x.kd∧x.kd≤7) ∧
    (uP x.kd=true→keyB x.pr=true)∧(uJ x.kd=true→keyB x.jb=true)∧(uS x.kd=true→keyB x.sp=true)∧(uU x.kd=true→keyB x.of_=true∧1≤x.ot∧x.ot≤1000000)∧(0 < uM x.kd→1≤x.n∧x.n≤uM x.kd) ∧
    (uP x.kd=false→x.pr = [])∧(uJ x.kd=false→x.jb = [])∧(uS x.kd=false→x.sp = [])∧(uM x.kd=0→x.n=0)∧(uU x.kd=false→x.of_ = []∧x.ot=0):=by
 unfold ntF at h
 split at h
 ·cases h
 rename_i h1
 split at h
 ·cases h
 rename_i h2
 split at h
 ·cases h
 rename_i h3
 split at h
 ·cases h
 rename_i h4
 split at h
 ·cases h
 rename_i h5
 split at h
 ·cases h
 rename_i h6
 simp only[outB,moB,not_or,not_and,Bool.or_eq_true,decide_eq_true_eq,Bool.not_eq_false,Bool.not_eq_true',Bool.or_eq_false_iff,decide_eq_false_iff_not,Classical.not_not] at h1 h2 h3 h4 h5 h6
 obtain⟨a1,a2⟩:=h2
 obtain⟨b1,b2,b3,b4⟩:=h4
 obtain⟨c1,c2⟩:=h5
 obtain⟨d1,d2,d3,d4,d5⟩:=h6
 refine⟨h1,by omega,by omega,by omega,b1,b2,b3,fun hu=>⟨b4 hu, ?_⟩,fun hu=>?_,d1,d2,d3,d4,d5⟩
 ·have:=c2 hu;omega
 ·have:=c1 hu;omega
theorem zH2 {s:List UInt8} (h:keyB s=true):s≠[]∧s.length≤40∧32∉s∧10∉s:=by
 cases s with
 | nil=>cases h
 | cons b r=>
  rw[zI2,Bool.and_eq_true,Bool.and_eq_true,decide_eq_true_eq,decide_eq_true_eq,zH11] at h
  obtain⟨⟨h1,_⟩,h2⟩:=h
  exact⟨by simp,h1,fun hm=>absurd (h2 _ hm) (by decide),fun hm=>absurd (h2 _ hm) (by decide)⟩
theorem zj11 (n:Int) (h:0≤n):Lib.itoa n≠[]∧32∉Lib.itoa n∧10∉Lib.itoa n:=by
 rw[zv3 n h]
 refine⟨fun e=>?_,fun hm=>?_,fun hm=>?_⟩
 ·have:=Lib.decDigits_length n.toNat
  rw[e] at this
  have:=Lib.nDigits_pos n.toNat
  simp at *
  omega
 ·exact absurd (zL2 _ _ hm) (by decide)
 ·exact absurd (zL2 _ _ hm) (by decide)
theorem za10 {x:Nt} (h:ntF x=0):(∃st no a p j n,x=⟨st,no,a,1,p,j,[],n,[],0⟩∧keyB p=true∧keyB j=true∧1≤n∧n≤1000)∨(∃st no a p n,x=⟨st,no,a,2,p,[],[],n,[],0⟩∧keyB p=true∧1≤n∧n≤1000) ∨
    (∃st no a p,x=⟨st,no,a,3,p,[],[],0,[],0⟩∧keyB p=true)∨(∃st no a p,x=⟨st,no,a,4,p,[],[],0,[],0⟩∧keyB p=true) ∨
    (∃st no a p s n,x=⟨st,no,a,5,p,[],s,n,[],0⟩∧keyB p=true∧keyB s=true∧1≤n∧n≤100000000)∨(∃st no a p n,x=⟨st,no,a,6,p,[],[],n,[],0⟩∧keyB p=true∧1≤n∧n≤100000000) ∨
    (∃st no a o n,x=⟨st,no,a,7,[],[],[],0,o,n⟩∧keyB o=true∧1≤n∧n≤1000000):=by
 obtain⟨h1,h2,h3,h4,e1,e2,e3,e4,e5,g1,g2,g3,g4,g5⟩:=zS2 h
 obtain⟨st,no,a,kd,p,j,s,n,o,t⟩:=x
 simp only at *
 rcases(show kd=1∨kd=2∨kd=3∨kd=4∨kd=5∨kd=6∨kd=7 by omega) with rfl|rfl|rfl|rfl|rfl|rfl|rfl
 ·obtain⟨rfl,rfl⟩:=g5 rfl
  rw[g3 rfl]
  exact .inl ⟨_,_,_,_,_,_,rfl,e1 rfl,e2 rfl,e5 (by decide)⟩
 ·obtain⟨rfl,rfl⟩:=g5 rfl
  rw[g3 rfl,g2 rfl]
  exact .inr (.inl ⟨_,_,_,_,_,rfl,e1 rfl,e5 (by decide)⟩)
 ·obtain⟨rfl,rfl⟩:=g5 rfl
  rw[g3 rfl,g2 rfl,g4 rfl]
  exact .inr (.inr (.inl ⟨_,_,_,_,rfl,e1 rfl⟩))
 ·obtain⟨rfl,rfl⟩:=g5 rfl
  rw[g3 rfl,g2 rfl,g4 rfl]
  exact .inr (.inr (.inr (.inl ⟨_,_,_,_,rfl,e1 rfl⟩)))
 ·obtain⟨rfl,rfl⟩:=g5 rfl
  rw[g2 rfl]
  exact .inr (.inr (.inr (.inr (.inl ⟨_,_,_,_,_,_,rfl,e1 rfl,e3 rfl,e5 (by decide)⟩))))
 ·obtain⟨rfl,rfl⟩:=g5 rfl
  rw[g3 rfl,g2 rfl]
  exact .inr (.inr (.inr (.inr (.inr (.inl ⟨_,_,_,_,_,rfl,e1 rfl,e5 (by decide)⟩)))))
 ·rw[g1 rfl,g3 rfl,g2 rfl,g4 rfl]
  exact .inr (.inr (.inr (.inr (.inr (.inr ⟨_,_,_,_,_,rfl,e4 rfl⟩)))))
def txD (x:Nt):List (List UInt8):=[x.st,Lib.itoa x.no,Lib.itoa x.at_,kwA x.kd]++[x.pr,x.jb,x.sp,x.of_].filter (fun s=>decide (s≠[]))++(if 0 < x.n+x.ot then [Lib.itoa (x.n+x.ot)] else [])
theorem zP16 {x:Nt} (h:ntF x=0):txD x=txW x:=by
 rcases za10 h with⟨st,no,a,p,j,n,rfl,k1,k2,n1,n2⟩|⟨st,no,a,p,n,rfl,k1,n1,n2⟩|⟨st,no,a,p,rfl,k1⟩|⟨st,no,a,p,rfl,k1⟩|⟨st,no,a,p,s,n,rfl,k1,k2,n1,n2⟩|⟨st,no,a,p,n,rfl,k1,n1,n2⟩|⟨st,no,a,o,n,rfl,k1,n1,n2⟩
 all_goals
  have:=(zH2 k1).1
  try have:=(zH2 k2).1
  try have:0 < n:=by omega
  simp[txD,txW,uM,uU, *]
theorem zV16 {x:Nt} (h:ntF x=0):rnF (Lib.join (txW x) [32])=some x∧10∉Lib.join (txW x) [32]∧(∀w∈txW x,32∉w∧w≠[]∧10∉w):=by
 obtain⟨h1,h2,h3,h4,-⟩:=zS2 h
 have key:∀{s:List UInt8},keyB s=true→32∉s∧s≠[]∧10∉s:=fun hk=>by
  obtain⟨a,_,b,c⟩:=zH2 hk
  exact⟨b,a,c⟩
 have num:∀{n:Int},0≤n→32∉Lib.itoa n∧Lib.itoa n≠[]∧10∉Lib.itoa n:=fun hn=>by
  obtain⟨a,b,c⟩:=zj11 _ hn
  exact⟨b,a,c⟩
 have kw:=zu12 x.kd h4
 have hall:∀w∈txW x,32∉w∧w≠[]∧10∉w:=fun w hw=>by
  rw[←zP16 h] at hw
  obtain⟨f1,f2,f3,f4,e1,e2,e3,e4,e5,g1,g2,g3,g4,g5⟩:=zS2 h
  unfold txD at hw
  rw[List.mem_append,List.mem_append] at hw
  rcases hw with(hw|hw)|hw
  ·rcases List.mem_cons.1 hw with rfl|hw
   ·exact key h1
   rcases List.mem_cons.1 hw with rfl|hw
   ·exact num (by omega)
   rcases List.mem_cons.1 hw with rfl|hw
   ·exact num (by omega)
   rcases List.mem_cons.1 hw with rfl|hw
   ·exact⟨kw.2.1,kw.2.2.2.1,kw.2.2.1⟩
   ·cases hw
  ·rw[List.mem_filter,decide_eq_true_eq] at hw
   obtain⟨hw,hn⟩:=hw
   simp only[List.mem_cons,List.not_mem_nil,or_false] at hw
   rcases hw with rfl|rfl|rfl|rfl
   ·exact key (e1 (by rcases hu:uP x.kd with _|_;exact absurd (g1 hu) hn;rfl))
   ·exact key (e2 (by rcases hu:uJ x.kd with _|_;exact absurd (g2 hu) hn;rfl))
   ·exact key (e3 (by rcases hu:uS x.kd with _|_;exact absurd (g3 hu) hn;rfl))
   ·exact key (e4 (by rcases hu:uU x.kd with _|_;exact absurd (g5 hu).1 hn;rfl)).1
  ·split at hw
   ·rw[List.mem_singleton] at hw
    subst hw
    exact num (by omega)
   ·cases hw
 refine⟨?_,fun hm=>?_,hall⟩
 ·unfold rnF
  rw[zC11 (by unfold txW;simp) fun w hw=>⟨(hall w hw).1,(hall w hw).2.1⟩,Option.bind_some]
  have n1:=zT6 x.no (by omega) (by omega)
  have n2:=zT6 x.at_ (by omega) (by omega)
  have e0:∀r,rwF ([x.st,Lib.itoa x.no,Lib.itoa x.at_,kwA x.kd]++r)=argF x.st x.no x.at_ x.kd r:=fun r=>by
   show (match numF (Lib.itoa x.no),numF (Lib.itoa x.at_) with|some no,some a=>argF x.st no a (kwI (kwA x.kd)) r|_,_=>none)=_
   rw[n1,n2,kw.1]
  unfold txW
  rw[List.append_assoc,List.append_assoc,e0]
  rcases za10 h with⟨st,no,a,p,j,n,rfl,k1,k2,m1,m2⟩|⟨st,no,a,p,n,rfl,k1,m1,m2⟩|⟨st,no,a,p,rfl,k1⟩|⟨st,no,a,p,rfl,k1⟩|⟨st,no,a,p,s,n,rfl,k1,k2,m1,m2⟩|⟨st,no,a,p,n,rfl,k1,m1,m2⟩|⟨st,no,a,o,n,rfl,k1,m1,m2⟩
  all_goals
   have:=(zH2 k1).1
   try have:=(zH2 k2).1
   try have hb:=zT6 n (by omega) (by omega)
   simp[argF,uM,uU, *]
 ·rcases zl10 hm with h10|⟨w,hw,h10⟩
  ·exact absurd h10 (by decide)
  ·exact(hall w hw).2.2 h10
def rdL (en:Bool):List (List UInt8)→Nat→Option (List Nt) × Nat
 | [],i=>(some [],i)
 | s :: ls,i=>match rnF s with
  | none=>(none,i)
  | some x=>if en=false∧ls = [] then (none,i) else ((rdL en ls (i+1)).1.map (x :: ·),(rdL en ls (i+1)).2)
theorem zU9:∀(l:List Nt) (i:Nat),(∀x∈l,ntF x=0)→(rdL true (l.map fun x=>Lib.join (txW x) [32]) i).1=some l
 | [],_,_=>rfl
 | x :: l,i,h=>by
  rw[List.map_cons,rdL,(zV16 (h x List.mem_cons_self)).1]
  simp only[Bool.true_eq_false,false_and,if_false]
  rw[zU9 l (i+1) fun y hy=>h y (List.mem_cons_of_mem _ hy)]
  rfl
theorem zx17 (l:List Nt) (h:∀x∈l,ntF x=0):lnsF (txF l)=(l.map fun x=>Lib.join (txW x) [32],true):=by
 have:=zs12 (ls:=l.map fun x=>Lib.join (txW x) [32]) fun w hw=>by
  obtain⟨x,hx,rfl⟩:=List.mem_map.1 hw
  exact(zV16 (h x hx)).2.1
 rw[List.map_map] at this
 exact this
end Go.Proofs.YtophoepbedlhjaaGreatDoor
-- NEWM
namespace Go.Proofs.YtophoepbedlhjaaGreatDoor
open Go Go.RowKit
set_option maxRecDepth 100000
def idxS (w:List UInt8):List (List UInt8)→Nat→Int
 | [],_=>-1
 | a :: l,k=>if w=a then (k:Int) else idxS w l (k+1)
theorem zA12 (w:List UInt8):∀(l:List (List UInt8)) (k:Nat),idxS w l k=match l.idxOf? w with|some j=>((k+j:Nat):Int)|none=>-1
 | [],_=>rfl
 | a :: l,k=>by
  rw[idxS,List.idxOf?_cons,zA12 w l (k+1)]
  by_cases h:w=a
  ·subst h;simp
  ·have h2:(a == w)=false:=by simpa using fun e=>h e.symm
   rw[if_neg h,h2]
   cases l.idxOf? w with
   | none=>rfl
   | some j=>
    simp only[Bool.false_eq_true,if_false,Option.map_some]
    congr 1
    omega
theorem zR15 (w:List UInt8):idxS w kwL 0=kwI w:=by
 rw[zA12]
 unfold kwI
 cases List.idxOf? w kwL <;> simp
theorem zy13 (V:Value) (ws:List (List UInt8)) (w:List UInt8) (hl:ws.length≤1000000):ACalls Tryz.prog 167 [.c (.r V (wR ws)),.c (T w)] [] fun u H=>u = .c (I (idxS w ws 0))∧H = []:=by
 have eL:(wR ws).length=ws.length:=by simp
 refine zf (N:=19) Tryz.func167 rfl rfl (by simp) fun E hE=>?_
 refine WA ?_
 refine WA ?_
 refine zq (fun m F H=>∃k:Nat,m+k=ws.length∧idxS w ws 0=idxS w (ws.drop k) k∧F = [(0,.c (.r V (wR ws))),(1,.c (T w)),(7,.c (I (wR ws).length)),(8,.c (I k))]∧H = []) ?_ ?_
 ·refine wkg [] (fun _=>[(0,.c (.r V (wR ws))),(1,.c (T w)),(7,.c (I (wR ws).length)),(8,.c (I (0:Nat)))]) (fun _=>[]) (fun _=>⟨_,0,rfl,rfl,rfl,rfl⟩) (hH:=fun _=>.nil)
 rintro m F H ⟨k,hk,hid,rfl,rfl⟩
 refine WA ?_
 refine zl rfl (fun hlt=>?_) (fun hge=>?_)
 ·obtain⟨a,ha⟩:∃a,ws[k]?=some a:=⟨_,List.getElem?_eq_getElem (by omega)⟩
  have hrow:(wR ws)[k]?=some [T a]:=by rw[List.getElem?_map,ha];rfl
  obtain⟨q,hq⟩:∃q,decide (w=a)=q:=⟨_,rfl⟩
  obtain⟨h1,h2⟩:=List.getElem?_eq_some_iff.1 ha
  rw[List.drop_eq_getElem_cons h1,h2,idxS] at hid
  refine WA ?_
  refine ZR ?_
  iterate 5 refine WX1 ?_
  refine ZA (zJ (a:=w) (b:=a) hq rfl Tryz.underlying9 rfl rfl) ?_
  refine WE ?_
  cases q with
  | true=>
   rw[if_pos (of_decide_eq_true hq)] at hid
   refine zb rfl ?_
   refine WA ?_
   exact arz (q:=⟨by rw[hid],rfl⟩)
  | false=>
   rw[if_neg (of_decide_eq_false hq)] at hid
   refine za rfl ?_
   refine WA ?_
   refine wkg [] (fun _=>[(0,.c (.r V (wR ws))),(1,.c (T w)),(7,.c (I (wR ws).length)),(8,.c (I (k+1:Nat)))]) (fun _=>[]) (fun _=>⟨m - 1,by omega,k+1,by omega,hid,rfl,rfl⟩) (hH:=fun _=>.nil)
 ·rw[List.drop_eq_nil_of_le (by omega),idxS] at hid
  refine WA ?_
  exact arz (q:=⟨by rw[hid],rfl⟩)
theorem zD5:ACalls Tryz.prog 163 [] [] fun u H=>(∃V,u = .c (.r V (wR kwL)))∧H = []:=by
 refine zf (N:=2) Tryz.func163 rfl rfl (by simp) fun E hE=>?_
 refine WA ?_
 refine ZR ?_
 refine ze rfl Ybsr ?_
 rintro _ _ ⟨vst,rfl,rfl⟩
 refine WE ?_
 exact arz (q:=⟨⟨_,rfl⟩,rfl⟩)
abbrev wbx (V:Value) (l:List (List UInt8)) (bad:Bool):OB:=.box [.c (.r V (wR l)),.c (B bad)]
theorem zV10 {P:Program} {N:Nat} {E:Env} {F:Fm} {H:List OB} {o:Oper} {t e:TypeId} {sz:Nat} {x:Operand} {lo hi:Option Operand} {l h:Nat} {v:Value} {rows rows':List (List CV)} (hq:(rows.take h).drop l=rows') (ho:o.op = .slice t x lo hi none) (ht:elemSz P t=some (e,sz)) (hx:ev F x=some (.c (.r v rows))) (hrow:∀row∈rows,row.length=sz)
    (hlo:(lo=none∧l=0)∨∃y kd z,lo=some y∧ev F y=some (.c (.s (.int kd z)))∧z=l) (hhi:(hi=none∧h=rows.length)∨∃y kd z,hi=some y∧ev F y=some (.c (.s (.int kd z)))∧z=h) (hlh:l≤h) (hhc:h≤rows.length):Rd P N E o F H (.c (.r (subV v l h sz) rows')):=hq▸zj5 ho ht hx hrow hlo hhi hlh hhc
theorem zx5 (V:Value) (l:List (List UInt8)) (bad:Bool):ACalls Tryz.prog 165 [.p 0 0 0] [wbx V l bad] fun u H=>∃V',u = .c (T (l.headD []))∧H = [wbx V' l.tail (bad || l.isEmpty)]:=by
 refine zG false (N:=28) Tryz.func165 rfl rfl (by simp) fun E hE hP=>?_
 cases l with
 | nil=>
  refine WA ?_
  refine WA ?_
  refine zb rfl ?_
  refine WA ?_
  refine WA ?_
  exact arg1 [some 0] [wbx V [] true] (q:=⟨V,rfl,by rw[List.isEmpty_nil,Bool.or_true];rfl⟩)
 | cons a0 l=>
  have hne:¬((wR (a0 :: l)).length:Int)=0:=by simp;omega
  have hrow:(wR (a0 :: l))[0]?=some [T a0]:=rfl
  refine WA ?_
  refine WA ?_
  refine za rfl ?_
  refine WA ?_
  refine ZR ?_
  iterate 5 refine WX1 ?_
  refine ZA (zV10 (e:=9) (rows':=wR l) (l:=1) (h:=(wR (a0 :: l)).length) (by rw[List.take_length];rfl) rfl (by kernel_rfl) rfl (fun row hr=>by obtain⟨s,-,rfl⟩:=List.mem_map.1 hr;rfl) (.inr ⟨_,_,_,rfl,rfl,rfl⟩) (.inl ⟨rfl,rfl⟩) (by simp) (Nat.le_refl _)) ?_
  refine WE ?_
  refine WA ?_
  exact zA1 [some 0] [wbx _ l bad] rfl rfl rfl (by decide) (ZNK rfl) ZCH ⟨_,rfl,by rw[List.isEmpty_cons,Bool.or_false];rfl⟩
end Go.Proofs.YtophoepbedlhjaaGreatDoor
namespace Go.Proofs.YtophoepbedlhjaaGreatDoor
open Go Go.RowKit
abbrev hdw (l:List (List UInt8)):List UInt8:=l.headD []
abbrev nmw (l:List (List UInt8)):Int:=(numF (l.headD [])).getD 0
abbrev nbw (l:List (List UInt8)):Bool:=(numF (l.headD [])).isNone
theorem zs3:numF []=none:=rfl
def b4 (l:List (List UInt8)):Bool:=(((false || l.isEmpty) || nbw l.tail) || nbw l.tail.tail) || l.tail.tail.tail.isEmpty
theorem rw_4 (l:List (List UInt8)):(b4 l=true→rwF l=none)∧(b4 l=false→rwF l=argF (hdw l) (nmw l.tail) (nmw l.tail.tail) (kwI (hdw l.tail.tail.tail)) l.tail.tail.tail.tail):=by
 unfold b4
 rcases l with _|⟨a,_|⟨b,_|⟨c,_|⟨d,r⟩⟩⟩⟩
 ·exact⟨fun _=>rfl,fun h=>by simp at h⟩
 ·exact⟨fun _=>rfl,fun h=>by simp[zs3] at h⟩
 ·exact⟨fun _=>rfl,fun h=>by simp[zs3] at h⟩
 ·exact⟨fun _=>rfl,fun h=>by simp at h⟩
 ·show (_→(match numF b,numF c with|some no,some a2=>argF a no a2 (kwI d) r|_,_=>none)=none)∧(_→(match numF b,numF c with|some no,some a2=>argF a no a2 (kwI d) r|_,_=>none)=argF a ((numF b).getD 0) ((numF c).getD 0) (kwI d) r)
  cases hb:numF b <;> cases hc:numF c <;> simp[hb,hc]
def eb (bad:Bool) (l:List (List UInt8)):Bool:=!bad && l.isEmpty
section
variable (l:List (List UInt8))
abbrev t4w:List (List UInt8):=l.tail.tail.tail.tail
abbrev nt0:Nt:=⟨hdw l,nmw l.tail,nmw l.tail.tail,kwI (hdw l.tail.tail.tail),[],[],[],0,[],0⟩
theorem zU16 {l:List (List UInt8)} (h:¬(1≤kwI (hdw l.tail.tail.tail))):rwF l=none:=by
 obtain⟨h1,h2⟩:=rw_4 l
 cases hb:b4 l with
 | true=>exact h1 hb
 | false=>
  rw[h2 hb]
  unfold argF
  repeat rw[if_neg (by omega)]
theorem zU7 {x:Nt} {bad:Bool} {r:List (List UInt8)} (b:Bool) (h1:b4 l=true→bad=true) (h2:b4 l=false→(eb bad r=(argF (hdw l) (nmw l.tail) (nmw l.tail.tail) (kwI (hdw l.tail.tail.tail)) (t4w l)).isSome∧∀y,argF (hdw l) (nmw l.tail) (nmw l.tail.tail) (kwI (hdw l.tail.tail.tail)) (t4w l)=some y→x=y)):eb bad r=(rwF l).isSome∧∀y,rwF l=some y→x=y:=by
 obtain⟨h3,h4⟩:=rw_4 l
 cases hb:b4 l with
 | true=>
  rw[h3 hb,h1 hb]
  exact⟨rfl,fun y h=>by cases h⟩
 | false=>rw[h4 hb];exact h2 hb
theorem rk_1 (hk:kwI (hdw l.tail.tail.tail)=1):eb (((b4 l || (t4w l).isEmpty) || (t4w l).tail.isEmpty) || nbw (t4w l).tail.tail) (t4w l).tail.tail.tail=(rwF l).isSome∧∀y,rwF l=some y→({ nt0 l with pr:=hdw (t4w l),jb:=hdw (t4w l).tail,n:=nmw (t4w l).tail.tail }:Nt)=y:=by
 refine zU7 l false (fun h=>by rw[h];rfl) fun h=>?_
 rw[h]
 unfold nt0
 rw[hk]
 unfold t4w
 generalize l.tail.tail.tail.tail=q
 rcases q with _|⟨a,_|⟨b,_|⟨c,_|⟨d,r⟩⟩⟩⟩
 ·simp[eb,argF]
 ·simp[eb,argF]
 ·simp[eb,argF,zs3]
 ·cases hn:numF c <;> simp[eb,argF,hn,nmw]
 ·cases hn:numF c <;> simp[eb,argF,hn,nmw]
theorem zY16 (k:Int) (hk2:k=2∨k=6) (hk:kwI (hdw l.tail.tail.tail)=k):eb ((b4 l || (t4w l).isEmpty) || nbw (t4w l).tail) (t4w l).tail.tail=(rwF l).isSome∧∀y,rwF l=some y→({ nt0 l with pr:=hdw (t4w l),n:=nmw (t4w l).tail }:Nt)=y:=by
 refine zU7 l false (fun h=>by rw[h];rfl) fun h=>?_
 rw[h]
 unfold nt0
 rw[hk]
 unfold t4w
 generalize l.tail.tail.tail.tail=q
 rcases hk2 with rfl|rfl
 all_goals
  rcases q with _|⟨a,_|⟨b,_|⟨c,r⟩⟩⟩
  ·simp[eb,argF]
  ·simp[eb,argF,zs3]
  ·cases hn:numF b <;> simp[eb,argF,hn,nmw]
  ·cases hn:numF b <;> simp[eb,argF,hn,nmw]
theorem zX16 (k:Int) (hk2:k=3∨k=4) (hk:kwI (hdw l.tail.tail.tail)=k):eb (b4 l || (t4w l).isEmpty) (t4w l).tail=(rwF l).isSome∧∀y,rwF l=some y→({ nt0 l with pr:=hdw (t4w l) }:Nt)=y:=by
 refine zU7 l false (fun h=>by rw[h];rfl) fun h=>?_
 rw[h]
 unfold nt0
 rw[hk]
 unfold t4w
 generalize l.tail.tail.tail.tail=q
 rcases hk2 with rfl|rfl
 all_goals
  rcases q with _|⟨a,_|⟨b,r⟩⟩
  all_goals simp[eb,argF]
theorem rk_5 (hk:kwI (hdw l.tail.tail.tail)=5):eb (((b4 l || (t4w l).isEmpty) || (t4w l).tail.isEmpty) || nbw (t4w l).tail.tail) (t4w l).tail.tail.tail=(rwF l).isSome∧∀y,rwF l=some y→({ nt0 l with pr:=hdw (t4w l),sp:=hdw (t4w l).tail,n:=nmw (t4w l).tail.tail }:Nt)=y:=by
 refine zU7 l false (fun h=>by rw[h];rfl) fun h=>?_
 rw[h]
 unfold nt0
 rw[hk]
 unfold t4w
 generalize l.tail.tail.tail.tail=q
 rcases q with _|⟨a,_|⟨b,_|⟨c,_|⟨d,r⟩⟩⟩⟩
 ·simp[eb,argF]
 ·simp[eb,argF]
 ·simp[eb,argF,zs3]
 ·cases hn:numF c <;> simp[eb,argF,hn,nmw]
 ·cases hn:numF c <;> simp[eb,argF,hn,nmw]
theorem rk_7 (hk:kwI (hdw l.tail.tail.tail)=7):eb ((b4 l || (t4w l).isEmpty) || nbw (t4w l).tail) (t4w l).tail.tail=(rwF l).isSome∧∀y,rwF l=some y→({ nt0 l with of_:=hdw (t4w l),ot:=nmw (t4w l).tail }:Nt)=y:=by
 refine zU7 l false (fun h=>by rw[h];rfl) fun h=>?_
 rw[h]
 unfold nt0
 rw[hk]
 unfold t4w
 generalize l.tail.tail.tail.tail=q
 rcases q with _|⟨a,_|⟨b,_|⟨c,r⟩⟩⟩
 ·simp[eb,argF]
 ·simp[eb,argF,zs3]
 ·cases hn:numF b <;> simp[eb,argF,hn,nmw]
 ·cases hn:numF b <;> simp[eb,argF,hn,nmw]
end
def stN (q:Bool) (s:List (List UInt8) × Bool):List UInt8 × List (List UInt8) × Bool:=if q=true then (hdw s.1,s.1.tail,s.2 || s.1.isEmpty) else ([],s.1,s.2)
def stM (q:Bool) (s:List (List UInt8) × Bool):Int × List (List UInt8) × Bool:=if q=true then (nmw s.1,s.1.tail,s.2 || nbw s.1) else (0,s.1,s.2)
theorem zW16 (l:List (List UInt8)) {k:Int} (hk:kwI (hdw l.tail.tail.tail)=k) (h1:1≤k) (h7:k≤7) {p j sp of_:List UInt8} {n ot:Int} {l1 l2 l3 l4 l5 l6:List (List UInt8)} {c1 c2 c3 c4 c5 c6:Bool}
    (e1:stN (uP k) (t4w l,b4 l)=(p,l1,c1)) (e2:stN (uJ k) (l1,c1)=(j,l2,c2)) (e3:stN (uS k) (l2,c2)=(sp,l3,c3)) (e4:stM (decide (0 < uM k)) (l3,c3)=(n,l4,c4)) (e5:stN (uU k) (l4,c4)=(of_,l5,c5)) (e6:stM (uU k) (l5,c5)=(ot,l6,c6)) :
    eb c6 l6=(rwF l).isSome∧∀y,rwF l=some y→(⟨hdw l,nmw l.tail,nmw l.tail.tail,k,p,j,sp,n,of_,ot⟩:Nt)=y:=by
 rcases(show k=1∨k=2∨k=3∨k=4∨k=5∨k=6∨k=7 by omega) with rfl|rfl|rfl|rfl|rfl|rfl|rfl
 all_goals
  simp only[stN,stM,uP,uJ,uS,uU,uM,ne_eq,Int.reduceEq,not_true_eq_false,not_false_eq_true,decide_true,decide_false,if_true,if_false,Bool.false_eq_true,or_self,or_true,true_or,or_false,false_or,Int.reduceLT,Prod.mk.injEq] at e1 e2 e3 e4 e5 e6
  obtain⟨rfl,rfl,rfl⟩:=e1
  obtain⟨rfl,rfl,rfl⟩:=e2
  obtain⟨rfl,rfl,rfl⟩:=e3
  obtain⟨rfl,rfl,rfl⟩:=e4
  obtain⟨rfl,rfl,rfl⟩:=e5
  obtain⟨rfl,rfl,rfl⟩:=e6
 ·have:=rk_1 l hk;unfold nt0 at this;rw[hk] at this;exact this
 ·have:=zY16 l 2 (.inl rfl) hk;unfold nt0 at this;rw[hk] at this;exact this
 ·have:=zX16 l 3 (.inl rfl) hk;unfold nt0 at this;rw[hk] at this;exact this
 ·have:=zX16 l 4 (.inr rfl) hk;unfold nt0 at this;rw[hk] at this;exact this
 ·have:=rk_5 l hk;unfold nt0 at this;rw[hk] at this;exact this
 ·have:=zY16 l 6 (.inr rfl) hk;unfold nt0 at this;rw[hk] at this;exact this
 ·have:=rk_7 l hk;unfold nt0 at this;rw[hk] at this;exact this
end Go.Proofs.YtophoepbedlhjaaGreatDoor
