/- The order of notes, by value: the program's and the document's. -/
import Derived.Test.YtophoepbedlhjaaGreatDoorQat
import Derived.Test.YtophoepbedlhjaaGreatDoorQap
import Derived.Test.YtophoepbedlhjaaGreatDoorQan
set_option linter.unusedSimpArgs false
set_option linter.unusedVariables false
-- NEWM
namespace Go.Proofs.YtophoepbedlhjaaGreatDoor
open Go Go.RowKit
set_option maxRecDepth 100000
structure Nt where
 st:List UInt8
 no:Int
 at_:Int
 kd:Int
 pr:List UInt8
 jb:List UInt8
 sp:List UInt8
 n:Int
 of_:List UInt8
 ot:Int
deriving DecidableEq
def noR (x:Nt):List CV:=[T x.st,I x.no,I x.at_,I x.kd,T x.pr,T x.jb,T x.sp,I x.n,T x.of_,I x.ot]
abbrev noA (x:Nt):AV:=.a ((noR x).map .c)
structure NtS (x:Nt):Prop where
 st:x.st.length≤1000000
 pr:x.pr.length≤1000000
 jb:x.jb.length≤1000000
 sp:x.sp.length≤1000000
 of_:x.of_.length≤1000000
def uP (k:Int):Bool:=decide (k≠7)
def uJ (k:Int):Bool:=decide (k=1)
def uS (k:Int):Bool:=decide (k=5)
def uU (k:Int):Bool:=decide (k=7)
def uM (k:Int):Int:=if k=1∨k=2 then 1000 else if k=5∨k=6 then 100000000 else 0
def usA (k:Int):AV:=.a [.c (B (uP k)),.c (B (uJ k)),.c (B (uS k)),.c (B (uU k)),.c (I (uM k))]
theorem usesof_v (k:Int):ACalls Tryz.prog 164 [.c (I k)] [] fun u H=>u=usA k∧H = []:=by
 refine zb (N:=23) Tryz.func164 rfl rfl (by simp) fun E hE=>?_
 by_cases h7:k=7
 ·subst h7
  repeat' (first
   | refine ZY ?_
   | refine zu rfl (by assumption) ?_|refine zt rfl (by assumption) ?_|refine zl rfl (fun _=>?_) (fun _=>?_)|refine zh rfl (fun _=>?_) (fun _=>?_)
   | (refine ze ?_;refine WE ?_))
  exact zn1 [] _ rfl (KK (t:=233) rfl) rfl (Cells.box rfl) (by first|(simp;done)|exact Nat.le_refl 5) (by(try simp only[nm,putL,Nat.reduceAdd,cellsOf,cvOf]) <;> rfl) (by decide) (ZNK rfl) (fun _=>C0 rfl) (fun _=>.nil) ⟨rfl,rfl⟩
 by_cases h1:k=1
 ·subst h1
  repeat' (first
   | refine ZY ?_
   | refine zu rfl (by assumption) ?_|refine zt rfl (by assumption) ?_|refine zl rfl (fun _=>?_) (fun _=>?_)|refine zh rfl (fun _=>?_) (fun _=>?_)
   | (refine ze ?_;refine WE ?_))
  exact zn1 [] _ rfl (KK (t:=233) rfl) rfl (Cells.box rfl) (by first|(simp;done)|exact Nat.le_refl 5) (by(try simp only[nm,putL,Nat.reduceAdd,cellsOf,cvOf]) <;> rfl) (by decide) (ZNK rfl) (fun _=>C0 rfl) (fun _=>.nil) ⟨rfl,rfl⟩
 by_cases h2:k=2
 ·subst h2
  repeat' (first
   | refine ZY ?_
   | refine zu rfl (by assumption) ?_|refine zt rfl (by assumption) ?_|refine zl rfl (fun _=>?_) (fun _=>?_)|refine zh rfl (fun _=>?_) (fun _=>?_)
   | (refine ze ?_;refine WE ?_))
  exact zn1 [] _ rfl (KK (t:=233) rfl) rfl (Cells.box rfl) (by first|(simp;done)|exact Nat.le_refl 5) (by(try simp only[nm,putL,Nat.reduceAdd,cellsOf,cvOf]) <;> rfl) (by decide) (ZNK rfl) (fun _=>C0 rfl) (fun _=>.nil) ⟨rfl,rfl⟩
 by_cases h5:k=5
 ·subst h5
  repeat' (first
   | refine ZY ?_
   | refine zu rfl (by assumption) ?_|refine zt rfl (by assumption) ?_|refine zl rfl (fun _=>?_) (fun _=>?_)|refine zh rfl (fun _=>?_) (fun _=>?_)
   | (refine ze ?_;refine WE ?_))
  exact zn1 [] _ rfl (KK (t:=233) rfl) rfl (Cells.box rfl) (by first|(simp;done)|exact Nat.le_refl 5) (by(try simp only[nm,putL,Nat.reduceAdd,cellsOf,cvOf]) <;> rfl) (by decide) (ZNK rfl) (fun _=>C0 rfl) (fun _=>.nil) ⟨rfl,rfl⟩
 by_cases h6:k=6
 ·subst h6
  repeat' (first
   | refine ZY ?_
   | refine zu rfl (by assumption) ?_|refine zt rfl (by assumption) ?_|refine zl rfl (fun _=>?_) (fun _=>?_)|refine zh rfl (fun _=>?_) (fun _=>?_)
   | (refine ze ?_;refine WE ?_))
  exact zn1 [] _ rfl (KK (t:=233) rfl) rfl (Cells.box rfl) (by first|(simp;done)|exact Nat.le_refl 5) (by(try simp only[nm,putL,Nat.reduceAdd,cellsOf,cvOf]) <;> rfl) (by decide) (ZNK rfl) (fun _=>C0 rfl) (fun _=>.nil) ⟨rfl,rfl⟩
 repeat' (first
  | refine ZY ?_
  | refine zu rfl (by assumption) ?_|refine zt rfl (by assumption) ?_|refine zl rfl (fun _=>?_) (fun _=>?_)|refine zh rfl (fun _=>?_) (fun _=>?_)
  | (refine ze ?_;refine WE ?_))
 exact zn1 [] _ rfl (KK (t:=233) rfl) rfl (Cells.box rfl) (by first|(simp;done)|exact Nat.le_refl 5) (by(try simp only[nm,putL,Nat.reduceAdd,cellsOf,cvOf]) <;> rfl) (by decide) (ZNK rfl) (fun _=>C0 rfl) (fun _=>.nil) ⟨by simp[usA,uP,uJ,uS,uU,uM,h7,h1,h2,h5,h6],rfl⟩
def ntF (x:Nt):Int:=
 if keyB x.st=false then 5
 else if outB x.no 1 1000000=true∨moB x.at_=false then 1
 else if outB x.kd 1 7=true then 4
 else if (uP x.kd=true∧keyB x.pr=false)∨(uJ x.kd=true∧keyB x.jb=false)∨(uS x.kd=true∧keyB x.sp=false)∨(uU x.kd=true∧keyB x.of_=false) then 5
 else if (0 < uM x.kd∧outB x.n 1 (uM x.kd)=true)∨(uU x.kd=true∧outB x.ot 1 1000000=true) then 1
 else if (uP x.kd=false∧¬x.pr = [])∨(uJ x.kd=false∧¬x.jb = [])∨(uS x.kd=false∧¬x.sp = [])∨(uM x.kd=0∧¬x.n=0)∨(uU x.kd=false∧(¬x.of_ = []∨¬x.ot=0)) then 3
 else 0
theorem sB {b:Bool} {X:Prop} (h:X):b=true∨(b=false∧X):=by
 cases b
 ·exact .inr ⟨rfl,h⟩
 ·exact .inl rfl
theorem us_four (k:Int):(uP k=true∧uJ k=true∧uS k=false∧uU k=false)∨(uP k=true∧uJ k=false∧uS k=false∧uU k=false)∨(uP k=true∧uJ k=false∧uS k=true∧uU k=false)∨(uP k=false∧uJ k=false∧uS k=false∧uU k=true):=by
 by_cases h7:k=7
 ·subst h7;simp[uP,uJ,uS,uU]
 by_cases h1:k=1
 ·subst h1;simp[uP,uJ,uS,uU]
 by_cases h5:k=5
 ·subst h5;simp[uP,uJ,uS,uU]
 simp[uP,uJ,uS,uU,h7,h1,h5]
set_option maxHeartbeats 4000000 in
theorem formed_v (x:Nt) (hx:NtS x):ACalls Tryz.prog 130 [noA x] [] fun u H=>u = .c (I (ntF x))∧H = []:=by
 obtain⟨st,no,at_,kn,pr,jb,sp,n,of_,ot⟩:=x
 obtain⟨b1,b2,b3,b4,b5⟩:=hx
 simp only at b1 b2 b3 b4 b5
 show ACalls _ _ [.a [.c (T st),.c (I no),.c (I at_),.c (I kn),.c (T pr),.c (T jb),.c (T sp),.c (I n),.c (T of_),.c (I ot)]] [] _
 obtain⟨ks0,hks0⟩:∃q,keyB st=q:=⟨_,rfl⟩
 obtain⟨no1,hno⟩:∃q,outB no 1 1000000=q:=⟨_,rfl⟩
 obtain⟨at1,hat⟩:∃q,moB at_=q:=⟨_,rfl⟩
 obtain⟨kd1,hkd⟩:∃q,outB kn 1 7=q:=⟨_,rfl⟩
 obtain⟨kp,hkp⟩:∃q,keyB pr=q:=⟨_,rfl⟩
 obtain⟨kj,hkj⟩:∃q,keyB jb=q:=⟨_,rfl⟩
 obtain⟨ks,hks⟩:∃q,keyB sp=q:=⟨_,rfl⟩
 obtain⟨ko,hko⟩:∃q,keyB of_=q:=⟨_,rfl⟩
 obtain⟨oo,hoo⟩:∃q,outB ot 1 1000000=q:=⟨_,rfl⟩
 obtain⟨np,hnp⟩:∃q,decide (pr≠[])=q:=⟨_,rfl⟩
 obtain⟨nj,hnj⟩:∃q,decide (jb≠[])=q:=⟨_,rfl⟩
 obtain⟨ns,hns⟩:∃q,decide (sp≠[])=q:=⟨_,rfl⟩
 obtain⟨nf,hnf⟩:∃q,decide (of_≠[])=q:=⟨_,rfl⟩
 refine zb (N:=139) Tryz.func130 rfl rfl (by simp) fun E hE=>?_
 refine WA ?_
 refine WR ?_
 refine zf rfl (efk (c:=fun _=>zn4 _ (by omega))) ?_
 rintro _ _ ⟨_,_,_,⟨rfl,rfl⟩,hF,hH⟩
 rw[hks0] at hF
 (refine NST hF hH ?_;clear hF hH;rintro rfl rfl)
 refine WE ?_
 cases ks0
 ·refine zd rfl ?_
  refine WA ?_
  exact arz (q:=⟨congrArg (fun z=>AV.c (I z)) (by simp[ntF,hks0]),rfl⟩)
 refine za rfl ?_
 refine ZZ ?_
 cases no1
 rotate_left
 ·refine WR ?_
  refine zf rfl (efk (c:=fun _=>zV7 _ _ _)) ?_
  rintro _ _ ⟨_,_,_,⟨rfl,rfl⟩,hF,hH⟩
  rw[hno] at hF
  (refine NST hF hH ?_;clear hF hH;rintro rfl rfl)
  refine WO ?_
  first|refine ZS ?_|(refine G1 rfl ?_;refine zf rfl (efk (c:=fun _=>zq3 _)) ?_;rintro _ _ ⟨_,_,_,⟨rfl,rfl⟩,hF,hH⟩;rw[hat] at hF;(refine NST hF hH ?_;clear hF hH;rintro rfl rfl))|skip
  refine WE ?_
  refine zd rfl ?_
  refine WA ?_
  exact arz (q:=⟨congrArg (fun z=>AV.c (I z)) (by simp[ntF,hks0,hno]),rfl⟩)
 cases at1
 ·refine WR ?_
  refine zf rfl (efk (c:=fun _=>zV7 _ _ _)) ?_
  rintro _ _ ⟨_,_,_,⟨rfl,rfl⟩,hF,hH⟩
  rw[hno] at hF
  (refine NST hF hH ?_;clear hF hH;rintro rfl rfl)
  refine WO ?_
  first|refine ZS ?_|(refine G1 rfl ?_;refine zf rfl (efk (c:=fun _=>zq3 _)) ?_;rintro _ _ ⟨_,_,_,⟨rfl,rfl⟩,hF,hH⟩;rw[hat] at hF;(refine NST hF hH ?_;clear hF hH;rintro rfl rfl))|skip
  refine WE ?_
  refine zd rfl ?_
  refine WA ?_
  exact arz (q:=⟨congrArg (fun z=>AV.c (I z)) (by simp[ntF,hks0,hno,hat]),rfl⟩)
 refine WR ?_
 refine zf rfl (efk (c:=fun _=>zV7 _ _ _)) ?_
 rintro _ _ ⟨_,_,_,⟨rfl,rfl⟩,hF,hH⟩
 rw[hno] at hF
 (refine NST hF hH ?_;clear hF hH;rintro rfl rfl)
 refine WO ?_
 first|refine ZS ?_|(refine G1 rfl ?_;refine zf rfl (efk (c:=fun _=>zq3 _)) ?_;rintro _ _ ⟨_,_,_,⟨rfl,rfl⟩,hF,hH⟩;rw[hat] at hF;(refine NST hF hH ?_;clear hF hH;rintro rfl rfl))|skip
 refine WE ?_
 refine za rfl ?_
 refine WR ?_
 refine zf rfl (efk (c:=fun _=>zV7 _ _ _)) ?_
 rintro _ _ ⟨_,_,_,⟨rfl,rfl⟩,hF,hH⟩
 rw[hkd] at hF
 (refine NST hF hH ?_;clear hF hH;rintro rfl rfl)
 refine WE ?_
 cases kd1
 rotate_left
 ·refine zd rfl ?_
  refine WA ?_
  exact arz (q:=⟨congrArg (fun z=>AV.c (I z)) (by simp[ntF,hks0,hno,hat,hkd]),rfl⟩)
 refine za rfl ?_
 refine ZZ ?_
 have h4:=us_four kn
 obtain⟨P,hP⟩:∃q,uP kn=q:=⟨_,rfl⟩
 obtain⟨J,hJ⟩:∃q,uJ kn=q:=⟨_,rfl⟩
 obtain⟨S,hS⟩:∃q,uS kn=q:=⟨_,rfl⟩
 obtain⟨U,hU⟩:∃q,uU kn=q:=⟨_,rfl⟩
 obtain⟨M,hM⟩:∃q,uM kn=q:=⟨_,rfl⟩
 rw[hP,hJ,hS,hU] at h4
 obtain⟨on,hon⟩:∃q,outB n 1 M=q:=⟨_,rfl⟩
 obtain⟨q8,h8⟩:∃q,(P && !kp || J && !kj || S && !ks || U && !ko)=q:=⟨_,rfl⟩
 obtain⟨q10,h10⟩:∃q,(decide (0 < M) && on || U && oo)=q:=⟨_,rfl⟩
 obtain⟨q12,h12⟩:∃q,(!P && np || !J && nj || !S && ns || decide (M=0) && decide (¬n=0) || !U && (nf || decide (¬ot=0)))=q:=⟨_,rfl⟩
 have e0:ntF ⟨st,no,at_,kn,pr,jb,sp,n,of_,ot⟩=if q8=true then 5 else if q10=true then 1 else if q12=true then 3 else 0:=by
  unfold ntF
  simp only
  rw[if_neg (by rw[hks0];decide),if_neg (by rw[hno,hat];decide),if_neg (by rw[hkd];decide),hkp,hkj,hks,hko,hP,hJ,hS,hU,hM,hon,hoo,←h8,←h10,←h12,←hnp,←hnj,←hns,←hnf]
  simp only[Bool.or_eq_true,Bool.and_eq_true,Bool.not_eq_true',decide_eq_true_eq,or_assoc,ne_eq]
 rw[e0]
 clear e0 hks0 hno hat hkd
 refine WR ?_
 refine zf rfl (efk (c:=fun _=>usesof_v kn)) ?_
 rintro _ _ ⟨_,_,_,⟨rfl,rfl⟩,hF,hH⟩
 rw[usA,hP,hJ,hS,hU,hM] at hF
 (refine NST hF hH ?_;clear hF hH;rintro rfl rfl)
 refine WE ?_
 refine zc4 (fun F H=>F = [(1,.p 0 0 0),(3,.p 1 0 0),(26,.c (B q8))]∧H = [.box [.c (T st),.c (I no),.c (I at_),.c (I kn),.c (T pr),.c (T jb),.c (T sp),.c (I n),.c (T of_),.c (I ot)],.box [.c (B P),.c (B J),.c (B S),.c (B U),.c (I M)]]) ?_ ?_ zb6
 ·subst h8
  have hl:(P=true∧kp=false)∨(P=true∧kp=true∧((J=true∧S=false∧U=false∧(kj=true∨(kj=false∧True)))∨(J=false∧S=false∧U=false)∨(J=false∧S=true∧U=false∧(ks=true∨(ks=false∧True)))))∨(P=false∧J=false∧S=false∧U=true∧(ko=true∨(ko=false∧True))):=by
   rcases h4 with⟨h1,h2,h3,h4⟩|⟨h1,h2,h3,h4⟩|⟨h1,h2,h3,h4⟩|⟨h1,h2,h3,h4⟩
   ·cases kp
    ·exact .inl ⟨h1,rfl⟩
    ·exact .inr (.inl ⟨h1,rfl,.inl ⟨h2,h3,h4,sB trivial⟩⟩)
   ·cases kp
    ·exact .inl ⟨h1,rfl⟩
    ·exact .inr (.inl ⟨h1,rfl,.inr (.inl ⟨h2,h3,h4⟩)⟩)
   ·cases kp
    ·exact .inl ⟨h1,rfl⟩
    ·exact .inr (.inl ⟨h1,rfl,.inr (.inr ⟨h2,h3,h4,sB trivial⟩)⟩)
   ·exact .inr (.inr ⟨h1,h2,h3,h4,sB trivial⟩)
  clear h4
  rcases hl with⟨rfl,rfl⟩|⟨rfl,rfl,⟨rfl,rfl,rfl,rfl|⟨rfl,-⟩⟩|⟨rfl,rfl,rfl⟩|⟨rfl,rfl,rfl,rfl|⟨rfl,-⟩⟩⟩|⟨rfl,rfl,rfl,rfl,rfl|⟨rfl,-⟩⟩
  all_goals (
   refine WR ?_
   first|refine ZS ?_|(refine G1 rfl ?_;refine zf rfl (efk (c:=fun _=>zn4 _ (by omega))) ?_;rintro _ _ ⟨_,_,_,⟨rfl,rfl⟩,hF,hH⟩;rw[hkp] at hF;(refine NST hF hH ?_;clear hF hH;rintro rfl rfl))|skip
   refine WO ?_
   first|refine ZS ?_|(refine G1 rfl ?_;refine zf rfl (efk (c:=fun _=>zn4 _ (by omega))) ?_;rintro _ _ ⟨_,_,_,⟨rfl,rfl⟩,hF,hH⟩;rw[hkj] at hF;(refine NST hF hH ?_;clear hF hH;rintro rfl rfl))|skip
   refine WO ?_
   first|refine ZS ?_|(refine G1 rfl ?_;refine zf rfl (efk (c:=fun _=>zn4 _ (by omega))) ?_;rintro _ _ ⟨_,_,_,⟨rfl,rfl⟩,hF,hH⟩;rw[hks] at hF;(refine NST hF hH ?_;clear hF hH;rintro rfl rfl))|skip
   refine WO ?_
   first|refine ZS ?_|(refine G1 rfl ?_;refine zf rfl (efk (c:=fun _=>zn4 _ (by omega))) ?_;rintro _ _ ⟨_,_,_,⟨rfl,rfl⟩,hF,hH⟩;rw[hko] at hF;(refine NST hF hH ?_;clear hF hH;rintro rfl rfl))|skip
   refine WE ?_
   refine zf1 [some 0,some 1] (fun _=>_) (fun _=>_) (by decide) (ZNL hE) ?_ ?_ (fun _=>⟨rfl,rfl⟩)
   ·exact fun _=>.cons rfl (.p rfl) (.cons rfl (.p rfl) (.cons rfl (.c rfl) .nil))
   ·exact ZCH)
 rintro F H ⟨rfl,rfl⟩
 refine ZZ ?_
 cases q8
 rotate_left
 ·refine zd rfl ?_
  refine WA ?_
  exact arz (q:=⟨rfl,rfl⟩)
 refine za rfl ?_
 refine ZZ ?_
 clear h8
 refine zc4 (fun F H=>F = [(1,.p 0 0 0),(3,.p 1 0 0),(65,.c (B q10))]∧H = [.box [.c (T st),.c (I no),.c (I at_),.c (I kn),.c (T pr),.c (T jb),.c (T sp),.c (I n),.c (T of_),.c (I ot)],.box [.c (B P),.c (B J),.c (B S),.c (B U),.c (I M)]]) ?_ ?_ zb6
 ·subst h10
  clear h12 h4
  by_cases hM0:0 < M
  all_goals (cases on <;> cases U <;> cases oo)
  all_goals (
   refine WR ?_
   first|refine ZS ?_|(refine G1 rfl ?_;refine zf rfl (efk (c:=fun _=>zV7 _ _ _)) ?_;rintro _ _ ⟨_,_,_,⟨rfl,rfl⟩,hF,hH⟩;rw[hon] at hF;(refine NST hF hH ?_;clear hF hH;rintro rfl rfl))|skip
   refine WO ?_
   first|refine ZS ?_|(refine G1 rfl ?_;refine zf rfl (efk (c:=fun _=>zV7 _ _ _)) ?_;rintro _ _ ⟨_,_,_,⟨rfl,rfl⟩,hF,hH⟩;rw[hoo] at hF;(refine NST hF hH ?_;clear hF hH;rintro rfl rfl))|skip
   refine WE ?_
   refine zf1 [some 0,some 1] (fun _=>_) (fun _=>_) (by decide) (ZNL hE) ?_ ?_ (fun _=>⟨rfl,rfl⟩)
   ·exact fun _=>.cons rfl (.p rfl) (.cons rfl (.p rfl) (.cons rfl (.c (by first|rfl|(simp[hM0];done))) .nil))
   ·exact ZCH)
 rintro F H ⟨rfl,rfl⟩
 refine ZZ ?_
 cases q10
 rotate_left
 ·refine zd rfl ?_
  refine WA ?_
  exact arz (q:=⟨rfl,rfl⟩)
 refine za rfl ?_
 refine ZZ ?_
 clear h10
 refine zc4 (fun F H=>F = [(1,.p 0 0 0),(3,.p 1 0 0),(85,.c (B q12))]∧H = [.box [.c (T st),.c (I no),.c (I at_),.c (I kn),.c (T pr),.c (T jb),.c (T sp),.c (I n),.c (T of_),.c (I ot)],.box [.c (B P),.c (B J),.c (B S),.c (B U),.c (I M)]]) ?_ ?_ zb6
 ·subst h12
  have hR:nf=true∨(nf=false∧(¬ot=0∨ot=0)):=sB (Decidable.em (ot=0)).symm
  have hY:(M=0∧¬n=0)∨((M=0∧n=0)∨¬M=0):=by omega
  have hX:((M=0∧¬n=0)∨(((M=0∧n=0)∨¬M=0)∧(nf=true∨(nf=false∧(¬ot=0∨ot=0))))):=hY.imp id fun h=>⟨h,hR⟩
  have hl:(P=true∧J=true∧S=false∧U=false∧(ns=true∨(ns=false∧((M=0∧¬n=0)∨(((M=0∧n=0)∨¬M=0)∧(nf=true∨(nf=false∧(¬ot=0∨ot=0))))))))∨(P=true∧J=false∧S=false∧U=false∧(nj=true∨(nj=false∧(ns=true∨(ns=false∧((M=0∧¬n=0)∨(((M=0∧n=0)∨¬M=0)∧(nf=true∨(nf=false∧(¬ot=0∨ot=0))))))))))∨(P=true∧J=false∧S=true∧U=false∧(nj=true∨(nj=false∧((M=0∧¬n=0)∨(((M=0∧n=0)∨¬M=0)∧(nf=true∨(nf=false∧(¬ot=0∨ot=0))))))))∨(P=false∧J=false∧S=false∧U=true∧(np=true∨(np=false∧(nj=true∨(nj=false∧(ns=true∨(ns=false∧((M=0∧¬n=0)∨((M=0∧n=0)∨¬M=0))))))))):=by
   rcases h4 with⟨h1,h2,h3,h4⟩|⟨h1,h2,h3,h4⟩|⟨h1,h2,h3,h4⟩|⟨h1,h2,h3,h4⟩
   ·exact .inl ⟨h1,h2,h3,h4,sB hX⟩
   ·exact .inr (.inl ⟨h1,h2,h3,h4,sB (sB hX)⟩)
   ·exact .inr (.inr (.inl ⟨h1,h2,h3,h4,sB hX⟩))
   ·exact .inr (.inr (.inr ⟨h1,h2,h3,h4,sB (sB (sB hY))⟩))
  clear h4 hR hX hY
  rcases hl with⟨rfl,rfl,rfl,rfl,rfl|⟨rfl,⟨hM0,hn0⟩|⟨⟨hM0,hn0⟩|hM0,rfl|⟨rfl,hot|hot⟩⟩⟩⟩|⟨rfl,rfl,rfl,rfl,rfl|⟨rfl,rfl|⟨rfl,⟨hM0,hn0⟩|⟨⟨hM0,hn0⟩|hM0,rfl|⟨rfl,hot|hot⟩⟩⟩⟩⟩|⟨rfl,rfl,rfl,rfl,rfl|⟨rfl,⟨hM0,hn0⟩|⟨⟨hM0,hn0⟩|hM0,rfl|⟨rfl,hot|hot⟩⟩⟩⟩|⟨rfl,rfl,rfl,rfl,rfl|⟨rfl,rfl|⟨rfl,rfl|⟨rfl,⟨hM0,hn0⟩|⟨hM0,hn0⟩|hM0⟩⟩⟩⟩
  all_goals (
   refine ZR ?_
   iterate 6 refine WX1 ?_
   first|refine ZP (zo2 (b:=[]) hnp rfl Tryz.underlying9 rfl rfl) ?_|refine ZS ?_
   iterate 8 refine WX1 ?_
   first|refine ZP (zo2 (b:=[]) hnj rfl Tryz.underlying9 rfl rfl) ?_|refine ZS ?_
   iterate 9 refine WX1 ?_
   first|refine ZP (zo2 (b:=[]) hns rfl Tryz.underlying9 rfl rfl) ?_|refine ZS ?_
   iterate 19 refine WX1 ?_
   first|refine ZP (zo2 (b:=[]) hnf rfl Tryz.underlying9 rfl rfl) ?_|refine ZS ?_
   refine WE ?_
   refine zf1 [some 0,some 1] (fun _=>_) (fun _=>_) (by decide) (ZNL hE) ?_ ?_ (fun _=>⟨rfl,rfl⟩)
   ·exact fun _=>.cons rfl (.p rfl) (.cons rfl (.p rfl) (.cons rfl (.c (by first|rfl|(simp[hM0,hn0,hot];done)|(simp[hM0,hn0];done)|(simp[hM0,hot];done)|(simp[hM0];done))) .nil))
   ·exact ZCH)
 rintro F H ⟨rfl,rfl⟩
 refine ZZ ?_
 cases q12
 rotate_left
 ·refine zd rfl ?_
  refine WA ?_
  exact arz (q:=⟨rfl,rfl⟩)
 refine za rfl ?_
 refine WA ?_
 exact arz (q:=⟨rfl,rfl⟩)
end Go.Proofs.YtophoepbedlhjaaGreatDoor
-- NEWM
namespace Go.Proofs.YtophoepbedlhjaaGreatDoor
open Go Go.RowKit
set_option maxRecDepth 100000
section
variable {N:Nat} {E:Env} {o:Oper} {F:Fm} {H:List OB} {x y:Operand} {yt:TypeId}
end
end Go.Proofs.YtophoepbedlhjaaGreatDoor
namespace Go.Proofs.YtophoepbedlhjaaGreatDoor
open Go Go.RowKit
section
variable {P:Program} {N:Nat} {E:Env} {F:Fm} {H:List OB} {o:Oper} {Q:Exit→Fm→List OB→Prop} {ops:Array Oper} {i:Nat} {L:List (Nat × Option (List Nat))}
theorem zj10 {S:Nat→Prop} {ρ:List (Option Nat)} {a:Act} {w:World} (h:gd ops o F=some false) (hR:R N E S ρ F H a w):Region.wanted o (yielded ops a.tmps)=false:=by
 obtain⟨j,b,oj,t,h1,h2,h3,⟨b',h4,h5⟩|⟨h4,_⟩⟩:=zd8 h
 ·simp only[Region.wanted,h1,zr1 hR h2 h3 h4]
  cases b <;> cases b' <;> simp_all
 ·simp[Region.wanted,h1,zl3 hR h2 h3 h4]
theorem at_efK {U:List Nat} {K:Fm→List OB→Prop} (ho:ops[i]?=some o) (hr:Ef P N E o F H K) (h:∀F' H',K F' H'→(∀j∈U,Ag P N E ops F' H' j)∧AT P N E ops L F' H' Q) (hg:gok ops o F=true:=by exact rfl):AT P N E ops ((i,some U) :: L) F H Q:=fun S ρ a w hR=>by
 refine wpT_e ho fun K' hK=>?_
 rw[if_pos (zZ2 (P:=P) hg hR)]
 refine zT (fun a' w' hh=>?_) (hr S ρ a w hR)
 obtain⟨S',ρ',F',H',hk,hR'⟩:=hh
 obtain⟨h1,h2⟩:=h F' H' hk
 exact hK _ _ (fun j hj=>h1 j hj S' ρ' a' w' hR') (h2 S' ρ' a' w' hR')
theorem at_efN {U:List Nat} {d:Nat} (ho:ops[i]?=some o) (hg:gd ops o F=some false) (hd:o.dst=some d) (hN:d < N) (h:(∀j∈U,Ag P N E ops ((d,un) :: F) H j)∧AT P N E ops L ((d,un) :: F) H Q):AT P N E ops ((i,some U) :: L) F H Q:=fun S ρ a w hR=>by
 refine wpT_e ho fun K' hK=>?_
 rw[if_neg (by rw[zj10 hg hR];simp)]
 have hR':R N E S ρ ((d,un) :: F) H (a.put o.dst undef) w:=by rw[hd];exact hR.put hN (.c (.s _))
 exact hK _ _ (fun j hj=>h.1 j hj S ρ _ w hR') (h.2 S ρ _ w hR')
end
end Go.Proofs.YtophoepbedlhjaaGreatDoor
-- NEWM
namespace Go.Proofs.YtophoepbedlhjaaGreatDoor
open Go Go.RowKit
set_option maxRecDepth 100000
end Go.Proofs.YtophoepbedlhjaaGreatDoor
namespace Go.Proofs.YtophoepbedlhjaaGreatDoor
open Go Go.RowKit
set_option maxRecDepth 100000
def cmpI (m n:Int):Int:=if m < n then -1 else if n < m then 1 else 0
theorem nanI_v (n:Int):ACalls Tryz.prog 136 [.c (I n)] [] fun u H=>u = .c (B false)∧H = []:=by
 have hn:¬n≠n:=fun h=>h rfl
 refine zb (N:=6) Tryz.func136 rfl rfl (by simp) fun E hE=>?_
 repeat' (first
  | refine ZY ?_
  | refine zu rfl (by assumption) ?_|refine zt rfl (by assumption) ?_|refine zl rfl (fun _=>?_) (fun _=>?_)|refine zh rfl (fun _=>?_) (fun _=>?_)
  | (refine ze ?_;refine WE ?_))
 exact arz (q:=⟨by simp,rfl⟩)
theorem zx7 (m n:Int):ACalls Tryz.prog 71 [.c (I m),.c (I n)] [] fun u H=>u = .c (I (cmpI m n))∧H = []:=by
 refine zb (N:=20) Tryz.func71 rfl rfl (by simp) fun E hE=>?_
 repeat' (first
  | refine ZY ?_
  | refine zu rfl (by assumption) ?_|refine zt rfl (by assumption) ?_|refine zl rfl (fun _=>?_) (fun _=>?_)|refine zh rfl (fun _=>?_) (fun _=>?_)
  | (refine ze (id:=1) ?_
     refine WO ?_
     refine zf rfl (zn false (fun _=>nanI_v _) rfl .fn rfl (by decide) (by kernel_rfl) rfl (fun _g=>.cons (.c rfl) .nil) (by simp)) ?_
     rintro _ _ ⟨_,_,_,⟨rfl,rfl⟩,hF,hH⟩
     (refine NST hF hH ?_;clear hF hH;rintro rfl rfl)
     refine WE ?_)
  | (refine ze (id:=2) ?_
     refine WO ?_
     refine zf rfl (zn false (fun _=>nanI_v _) rfl .fn rfl (by decide) (by kernel_rfl) rfl (fun _g=>.cons (.c rfl) .nil) (by simp)) ?_
     rintro _ _ ⟨_,_,_,⟨rfl,rfl⟩,hF,hH⟩
     (refine NST hF hH ?_;clear hF hH;rintro rfl rfl)
     refine WE ?_)
  | (refine ze ?_;refine WE ?_))
 all_goals (refine arz (q:=⟨?_,rfl⟩))
 all_goals (unfold cmpI;first|rw[if_pos (by omega)]|rw[if_neg (by omega),if_pos (by omega)]|rw[if_neg (by omega),if_neg (by omega)])
end Go.Proofs.YtophoepbedlhjaaGreatDoor
-- NEWM
namespace Go.Proofs.YtophoepbedlhjaaGreatDoor
open Go Go.RowKit
set_option maxRecDepth 100000
def fstN:List Int→Int
 | []=>0
 | a :: l=>if a=0 then fstN l else a
theorem zh11 {l:List Int} {k:Nat} {n:Int} (h:l[k]?=some n):fstN (l.drop k)=if n=0 then fstN (l.drop (k+1)) else n:=by
 obtain⟨h1,h2⟩:=List.getElem?_eq_some_iff.1 h
 rw[List.drop_eq_getElem_cons h1,h2];rfl
abbrev nR (l:List Int):List (List CV):=l.map fun n=>[I n]
theorem orJ_v (l:List Int) (v:Value) (hl:l.length≤1000000):ACalls Tryz.prog 70 [.c (.r v (nR l))] [] fun u H=>u = .c (I (fstN l))∧H = []:=by
 have e1:(nR l).length=l.length:=by simp
 refine zb (N:=18) Tryz.func70 rfl rfl (by simp) fun E hE=>?_
 refine WA ?_
 refine WA ?_
 refine WA ?_
 refine zm (fun m F H=>∃(k:Nat),m+k=l.length∧fstN (l.drop k)=fstN l∧F = [(3,.c (I 0)),(6,.c (.r v (nR l))),(7,.c (I (nR l).length)),(8,.c (I k))]∧H = []) ?_ ?_
 ·refine wkg [] (fun _=>[(3,.c (I 0)),(6,.c (.r v (nR l))),(7,.c (I (nR l).length)),(8,.c (I (0:Nat)))]) (fun _=>[]) (fun _=>?_) (hH:=fun _=>.nil)
  exact⟨l.length,0,by omega,rfl,rfl,rfl⟩
 rintro m F H ⟨k,hk,hf,rfl,rfl⟩
 refine WA ?_
 refine zl rfl (fun hlt=>?_) (fun hge=>?_)
 ·obtain⟨n,hn⟩:∃n,l[k]?=some n:=⟨_,List.getElem?_eq_getElem (by omega)⟩
  have hrow:(nR l)[k]?=some [I n]:=by rw[List.getElem?_map,hn];rfl
  have hd:=zh11 hn
  refine WA ?_
  refine WA ?_
  refine zl rfl (fun hv=>?_) (fun hv=>?_)
  ·refine WA ?_
   exact arz (q:=⟨by rw[←hf,hd,if_neg hv],rfl⟩)
  ·refine WA ?_
   refine wkg [] (fun _=>[(3,.c (I 0)),(6,.c (.r v (nR l))),(7,.c (I (nR l).length)),(8,.c (I (k+1:Nat)))]) (fun _=>[]) (fun _=>?_) (hH:=fun _=>.nil)
   exact⟨m - 1,by omega,k+1,by omega,by rw[←hf,hd,if_pos (by omega)],rfl,rfl⟩
 refine WA ?_
 exact arz (q:=⟨by rw[←hf,List.drop_eq_nil_of_le (by omega)];rfl,rfl⟩)
def cmpLs:List Int→List Int→Int
 | [],[]=>0
 | [],_ :: _=>-1
 | _ :: _,[]=>1
 | x :: a,y :: b=>if cmpI x y≠0 then cmpI x y else cmpLs a b
theorem drop_c {l:List Int} {k:Nat} {n:Int} (h:l[k]?=some n):l.drop k=n :: l.drop (k+1):=by
 obtain⟨h1,h2⟩:=List.getElem?_eq_some_iff.1 h
 rw[List.drop_eq_getElem_cons h1,h2]
set_option maxHeartbeats 1000000 in
theorem compare_v (a b:List Int) (va vb:Value) (ha:a.length≤1000000) (hb:b.length≤1000000):ACalls Tryz.prog 87 [.c (.r va (nR a)),.c (.r vb (nR b))] [] fun u H=>u = .c (I (cmpLs a b))∧H = []:=by
 have e1:(nR a).length=a.length:=by simp
 have e2:(nR b).length=b.length:=by simp
 refine zb (N:=36) Tryz.func87 rfl rfl (by simp) fun E hE=>?_
 refine WA ?_
 refine WA ?_
 refine zm (fun m F H=>∃(k:Nat),m+k=a.length∧k≤b.length∧cmpLs (a.drop k) (b.drop k)=cmpLs a b∧F = [(0,.c (.r va (nR a))),(1,.c (.r vb (nR b))),(9,.c (.r va (nR a))),(10,.c (I (nR a).length)),(11,.c (I k))]∧H = []) ?_ ?_
 ·refine wkg [] (fun _=>[(0,.c (.r va (nR a))),(1,.c (.r vb (nR b))),(9,.c (.r va (nR a))),(10,.c (I (nR a).length)),(11,.c (I (0:Nat)))]) (fun _=>[]) (fun _=>?_) (hH:=fun _=>.nil)
  exact⟨a.length,0,by omega,by omega,rfl,rfl,rfl⟩
 rintro m F H ⟨k,hk,hkb,hf,rfl,rfl⟩
 refine WA ?_
 refine zl rfl (fun hlt=>?_) (fun hge=>?_)
 ·obtain⟨x,hx⟩:∃n,a[k]?=some n:=⟨_,List.getElem?_eq_getElem (by omega)⟩
  have hrow:(nR a)[k]?=some [I x]:=by rw[List.getElem?_map,hx];rfl
  have hd:=drop_c hx
  rw[hd] at hf
  refine WA ?_
  refine WA ?_
  refine zl rfl (fun h1=>?_) (fun h1=>?_)
  ·have hv:cmpLs a b=1:=by rw[←hf,List.drop_eq_nil_of_le (show b.length≤k by omega)];rfl
   rw[hv]
   refine WA ?_
   exact arz (q:=⟨rfl,rfl⟩)
  obtain⟨y,hy⟩:∃n,b[k]?=some n:=⟨_,List.getElem?_eq_getElem (by omega)⟩
  have hrow2:(nR b)[k]?=some [I y]:=by rw[List.getElem?_map,hy];rfl
  rw[drop_c hy,cmpLs] at hf
  refine WA ?_
  refine WR ?_
  refine zf rfl (zn false (fun _=>zx7 _ _) rfl .fn rfl (by decide) (by kernel_rfl) rfl (fun _g=>.cons (.c rfl) (.cons (.c rfl) .nil)) (by simp)) ?_
  rintro _ _ ⟨_,_,_,⟨rfl,rfl⟩,hF,hH⟩
  (refine NST hF hH ?_;clear hF hH;rintro rfl rfl)
  refine WE ?_
  generalize cmpI x y=z at *
  refine WA ?_
  refine zl rfl (fun h0=>?_) (fun h0=>?_)
  ·rw[if_pos h0] at hf
   rw[←hf]
   refine WA ?_
   exact arz (q:=⟨rfl,rfl⟩)
  ·rw[if_neg h0] at hf
   refine WA ?_
   refine wkg [] (fun _=>[(0,.c (.r va (nR a))),(1,.c (.r vb (nR b))),(9,.c (.r va (nR a))),(10,.c (I (nR a).length)),(11,.c (I (k+1:Nat)))]) (fun _=>[]) (fun _=>?_) (hH:=fun _=>.nil)
   exact⟨m - 1,by omega,k+1,by omega,by omega,hf,rfl,rfl⟩
 rw[List.drop_eq_nil_of_le (show a.length≤k by omega)] at hf
 refine WA ?_
 refine zl rfl (fun h0=>?_) (fun h0=>?_)
 ·have hv:cmpLs a b = -1:=by
   rw[←hf]
   cases hb2:b.drop k with
   | nil=>have:=List.drop_eq_nil_iff.1 hb2;omega
   | cons y l=>rfl
  rw[hv]
  refine WA ?_
  exact arz (q:=⟨rfl,rfl⟩)
 ·have hv:cmpLs a b=0:=by rw[←hf,List.drop_eq_nil_of_le (show b.length≤k by omega)];rfl
  rw[hv]
  refine WA ?_
  exact arz (q:=⟨rfl,rfl⟩)
theorem zy11 {m n:Int}:cmpI m n < 0↔m < n:=by unfold cmpI;split <;> (try split) <;> omega
theorem cmpN_0 {m n:Int}:cmpI m n=0↔m=n:=by unfold cmpI;split <;> (try split) <;> omega
def cmpB:List UInt8→List UInt8→Int
 | [],[]=>0
 | [],_ :: _=>-1
 | _ :: _,[]=>1
 | x :: a,y :: b=>if x=y then cmpB a b else if x < y then -1 else 1
theorem zz11:∀{a b:List UInt8},cmpB a b=0↔a=b
 | [],[]=>by simp[cmpB]
 | [],_ :: _=>by simp[cmpB]
 | _ :: _,[]=>by simp[cmpB]
 | x :: a,y :: b=>by
  unfold cmpB
  split
  ·rename_i h;rw[zz11];simp[h]
  ·rename_i h;split <;> simp[h]
theorem zQ5:∀{a b c:List UInt8},cmpB a b < 0→cmpB b c < 0→cmpB a c < 0
 | [],[],_=>by simp[cmpB]
 | _,_ :: _,[]=>by simp[cmpB]
 | [],_ :: _,_ :: _=>by simp[cmpB]
 | _ :: _,[],_=>by simp[cmpB]
 | x :: a,y :: b,z :: c=>by
  intro h1 h2
  unfold cmpB at h1 h2 ⊢
  by_cases e1:x=y
  ·subst e1
   rw[if_pos rfl] at h1
   by_cases e2:x=z
   ·subst e2
    rw[if_pos rfl] at h2 ⊢
    exact zQ5 h1 h2
   ·rw[if_neg e2] at h2 ⊢;exact h2
  ·rw[if_neg e1] at h1
   split at h1
   ·rename_i h3
    have h3':x.toNat < y.toNat:=h3
    by_cases e2:y=z
    ·subst e2;rw[if_neg e1,if_pos h3];decide
    ·rw[if_neg e2] at h2
     split at h2
     ·rename_i h4
      have h4':y.toNat < z.toNat:=h4
      rw[if_neg (fun e=>by subst e;omega),if_pos (show x < z from by show x.toNat < z.toNat;omega)]
      decide
     ·omega
   ·omega
theorem zl9 {a b:List UInt8}:∀(n i:Nat),i+n=min a.length b.length→(match (List.range' i n).find? (fun i=>(bst a)[i]! != (bst b)[i]!) with|some i=>if (bst a)[i]! < (bst b)[i]! then (-1:Int) else 1|none=>if a.length < b.length then -1 else if a.length > b.length then 1 else 0)=cmpB (a.drop i) (b.drop i)
 | 0,i,h=>by
  show (if a.length < b.length then (-1:Int) else if a.length > b.length then 1 else 0)=_
  by_cases h1:a.length < b.length
  ·rw[if_pos h1,List.drop_eq_nil_of_le (show a.length≤i by omega)]
   cases hb:b.drop i with
   | nil=>have:=List.drop_eq_nil_iff.1 hb;omega
   | cons y l=>rfl
  ·rw[if_neg h1,List.drop_eq_nil_of_le (show b.length≤i by omega)]
   by_cases h2:a.length > b.length
   ·rw[if_pos h2]
    cases ha:a.drop i with
    | nil=>have:=List.drop_eq_nil_iff.1 ha;omega
    | cons y l=>rfl
   ·rw[if_neg h2,List.drop_eq_nil_of_le (show a.length≤i by omega)];rfl
 | n+1,i,h=>by
  have hi:i < a.length:=by omega
  have hj:i < b.length:=by omega
  rw[List.drop_eq_getElem_cons hi,List.drop_eq_getElem_cons hj,List.range'_succ,List.find?_cons]
  have hg:∀(l:List UInt8) (hl:i < l.length),(bst l)[i]! = l[i]:=fun l hl=>by
   rw[getElem!_pos (bst l) i (by rw[zi1];exact hl)];rfl
  rw[hg a hi,hg b hj,cmpB]
  by_cases hc:a[i]=b[i]
  ·rw[if_pos hc,show (a[i] != b[i])=false by simp[hc]]
   exact zl9 n (i+1) (by omega)
  ·rw[if_neg hc,show (a[i] != b[i])=true by simpa using hc]
   show (if (bst a)[i]! < (bst b)[i]! then (-1:Int) else 1)=_
   rw[hg a hi,hg b hj]
theorem cmp_bst (a b:List UInt8):Extern.BytealgCompare.cmp (bst a) (bst b)=cmpB a b:=by
 have:=zl9 (a:=a) (b:=b) (min a.length b.length) 0 (by omega)
 rw[List.drop_zero,List.drop_zero] at this
 rw[←this]
 unfold Extern.BytealgCompare.cmp
 rw[zi1,zi1,List.range_eq_range']
 cases (List.range' 0 (min a.length b.length)).find? fun i=>(bst a)[i]! != (bst b)[i]! <;> rfl
theorem zB9 {P:Program} (a b:List UInt8) (w:World):(Extern.BytealgCompare.compare #[.string (bst a),.string (bst b)]).run P w = .ok (.int .i64 (cmpB a b)) w:=by
 rw[←cmp_bst]
 show (do pure (goInt (Extern.BytealgCompare.cmp (←Extern.Bytes.bytesOf (.string (bst a))) (←Extern.Bytes.bytesOf (.string (bst b))))):Sem Value).run P w=_
 rfl
theorem bcmp_v (a b:List UInt8):ACalls Tryz.prog 137 [.c (T a),.c (T b)] [] fun u H=>u = .c (I (cmpB a b))∧H = []:=by
 refine zb (N:=8) Tryz.func137 rfl rfl (by simp) fun E hE=>?_
 repeat' (first
  | refine ZY ?_
  | refine zu rfl (by assumption) ?_|refine zt rfl (by assumption) ?_|refine zl rfl (fun _=>?_) (fun _=>?_)|refine zh rfl (fun _=>?_) (fun _=>?_)
  | (refine ze (id:=1) ?_
     refine WO ?_
     refine ZA (rd_ext (us:=[.string (bst a),.string (bst b)]) rfl rfl (fun _ _=>rfl) Tryz.func217 (by decide +kernel) rfl rfl rfl (fun w=>zB9 a b w)) ?_
     refine WE ?_)
  | (refine ze ?_;refine WE ?_))
 exact arz (q:=⟨rfl,rfl⟩)
theorem scmp_v (a b:List UInt8):ACalls Tryz.prog 72 [.c (T a),.c (T b)] [] fun u H=>u = .c (I (cmpB a b))∧H = []:=by
 refine zb (N:=8) Tryz.func72 rfl rfl (by simp) fun E hE=>?_
 repeat' (first
  | refine ZY ?_
  | refine zu rfl (by assumption) ?_|refine zt rfl (by assumption) ?_|refine zl rfl (fun _=>?_) (fun _=>?_)|refine zh rfl (fun _=>?_) (fun _=>?_)
  | (refine ze (id:=1) ?_
     refine WO ?_
     refine zf rfl (efk (c:=fun _=>bcmp_v _ _)) ?_
     rintro _ _ ⟨_,_,_,⟨rfl,rfl⟩,hF,hH⟩
     (refine NST hF hH ?_;clear hF hH;rintro rfl rfl)
     refine WE ?_)
  | (refine ze ?_;refine WE ?_))
 exact arz (q:=⟨rfl,rfl⟩)
end Go.Proofs.YtophoepbedlhjaaGreatDoor
