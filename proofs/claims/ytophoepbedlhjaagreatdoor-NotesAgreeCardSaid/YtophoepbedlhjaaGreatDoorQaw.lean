/- The order of notes, by value: the program's and the document's. -/
import Derived.Test.YtophoepbedlhjaaGreatDoorQav
import Derived.Test.YtophoepbedlhjaaGreatDoorQan
import Derived.Test.YtophoepbedlhjaaGreatDoorQal
set_option linter.unusedSimpArgs false
set_option linter.unusedVariables false
-- NEWM
namespace Go.Proofs.YtophoepbedlhjaaGreatDoor
open Go Go.RowKit
set_option maxRecDepth 100000
section
variable {N:Nat} {E:Env} {o:Oper} {F:Fm} {H:List OB} {x y:Operand} {yt:TypeId}
theorem zv18 {a b:Nt}:a=b↔a.st=b.st∧a.no=b.no∧a.at_=b.at_∧a.kd=b.kd∧a.pr=b.pr∧a.jb=b.jb∧a.sp=b.sp∧a.n=b.n∧a.of_=b.of_∧a.ot=b.ot:=by
 cases a;cases b;simp
theorem zG13 {a0 a4 a5 a6 a8:ByteArray} {a1 a2 a3 a7 a9:Int} {b0 b4 b5 b6 b8:ByteArray} {b1 b2 b3 b7 b9:Int} (ho:o.op = .binOp .neq 37 x y yt) (hx:ev F x=some (.a [.c (.s (.string a0)),.c (.s (.int .i64 a1)),.c (.s (.int .i64 a2)),.c (.s (.int .i64 a3)),.c (.s (.string a4)),.c (.s (.string a5)),.c (.s (.string a6)),.c (.s (.int .i64 a7)),.c (.s (.string a8)),.c (.s (.int .i64 a9))])) (hy:ev F y=some (.a [.c (.s (.string b0)),.c (.s (.int .i64 b1)),.c (.s (.int .i64 b2)),.c (.s (.int .i64 b3)),.c (.s (.string b4)),.c (.s (.string b5)),.c (.s (.string b6)),.c (.s (.int .i64 b7)),.c (.s (.string b8)),.c (.s (.int .i64 b9))])):Rd Tryz.prog N E o F H (.c (.s (.bool (decide (¬(a0.toList=b0.toList∧a1=b1∧a2=b2∧a3=b3∧a4.toList=b4.toList∧a5.toList=b5.toList∧a6.toList=b6.toList∧a7=b7∧a8.toList=b8.toList∧a9=b9)))))):=
 zD1 (dx:=.agg #[.string a0,.int .i64 a1,.int .i64 a2,.int .i64 a3,.string a4,.string a5,.string a6,.int .i64 a7,.string a8,.int .i64 a9]) (dy:=.agg #[.string b0,.int .i64 b1,.int .i64 b2,.int .i64 b3,.string b4,.string b5,.string b6,.int .i64 b7,.string b8,.int .i64 b9]) ho hx hy (fun _ _=>by simp[AV.den,CV.den,AV.denL]) (fun _ _=>by simp[AV.den,CV.den,AV.denL]) fun w=>by
  go_simp
  repeat' split
  all_goals simp_all
theorem nt_eqb {a b:Nt}:a=b↔(bst a.st).toList=(bst b.st).toList∧a.no=b.no∧a.at_=b.at_∧a.kd=b.kd∧(bst a.pr).toList=(bst b.pr).toList∧(bst a.jb).toList=(bst b.jb).toList∧(bst a.sp).toList=(bst b.sp).toList∧a.n=b.n∧(bst a.of_).toList=(bst b.of_).toList∧a.ot=b.ot:=by
 rw[zv18];simp only[zI1]
theorem zO8 {a b:Nt} {q:Bool} (h:decide (¬a=b)=q) (ho:o.op = .binOp .neq 37 x y yt) (hx:ev F x=some (noA a)) (hy:ev F y=some (noA b)):Rd Tryz.prog N E o F H (.c (.s (.bool q))):=by
 have:=zG13 (N:=N) (E:=E) (H:=H) ho hx hy
 rwa [show decide (¬((bst a.st).toList=(bst b.st).toList∧a.no=b.no∧a.at_=b.at_∧a.kd=b.kd∧(bst a.pr).toList=(bst b.pr).toList∧(bst a.jb).toList=(bst b.jb).toList∧(bst a.sp).toList=(bst b.sp).toList∧a.n=b.n∧(bst a.of_).toList=(bst b.of_).toList∧a.ot=b.ot))=q by rw[←h];exact decide_eq_decide.2 (not_congr nt_eqb.symm)] at this
end
end Go.Proofs.YtophoepbedlhjaaGreatDoor
namespace Go.Proofs.YtophoepbedlhjaaGreatDoor
open Go Go.RowKit
section
variable {P:Program} {N:Nat} {E:Env} {F:Fm} {H:List OB} {o:Oper} {Q:Exit→Fm→List OB→Prop} {ops:Array Oper} {i:Nat} {L:List (Nat × Option (List Nat))}
theorem zL7 {S:Nat→Prop} {ρ:List (Option Nat)} {a:Act} {w:World} (h:gd ops o F=some false) (hR:R N E S ρ F H a w):Region.wanted o (yielded ops a.tmps)=false:=by
 obtain⟨j,b,oj,t,h1,h2,h3,⟨b',h4,h5⟩|⟨h4,_⟩⟩:=zg9 h
 ·simp only[Region.wanted,h1,zH1 hR h2 h3 h4]
  cases b <;> cases b' <;> simp_all
 ·simp[Region.wanted,h1,zq3 hR h2 h3 h4]
theorem zG3 {U:List Nat} {K:Fm→List OB→Prop} (ho:ops[i]?=some o) (hr:Ef P N E o F H K) (h:∀F' H',K F' H'→(∀j∈U,Ag P N E ops F' H' j)∧AT P N E ops L F' H' Q) (hg:gok ops o F=true:=by exact rfl):AT P N E ops ((i,some U) :: L) F H Q:=fun S ρ a w hR=>by
 refine zs13 ho fun K' hK=>?_
 rw[if_pos (zy2 (P:=P) hg hR)]
 refine zZ (fun a' w' hh=>?_) (hr S ρ a w hR)
 obtain⟨S',ρ',F',H',hk,hR'⟩:=hh
 obtain⟨h1,h2⟩:=h F' H' hk
 exact hK _ _ (fun j hj=>h1 j hj S' ρ' a' w' hR') (h2 S' ρ' a' w' hR')
theorem zF3 {U:List Nat} {d:Nat} (ho:ops[i]?=some o) (hg:gd ops o F=some false) (hd:o.dst=some d) (hN:d < N) (h:(∀j∈U,Ag P N E ops ((d,un) :: F) H j)∧AT P N E ops L ((d,un) :: F) H Q):AT P N E ops ((i,some U) :: L) F H Q:=fun S ρ a w hR=>by
 refine zs13 ho fun K' hK=>?_
 rw[if_neg (by rw[zL7 hg hR];simp)]
 have hR':R N E S ρ ((d,un) :: F) H (a.put o.dst undef) w:=by rw[hd];exact hR.put hN (.c (.s _))
 exact hK _ _ (fun j hj=>h.1 j hj S ρ _ w hR') (h.2 S ρ _ w hR')
theorem zb8 {S:Nat→Prop} {ρ:List (Option Nat)} {a:Act} {w:World} {d:Nat} {x:AV} (hR:R N E S ρ F H a w) (hx:F.lookup d=some x):a.put (some d) (x.den ρ H)=a:=by
 have hf:=(hR.fr d x hx).1
 obtain⟨tm,df⟩:=a
 simp only[Act.put,Act.mk.injEq,and_true]
 refine Array.ext_getElem? fun k=>?_
 rw[Array.getElem?_setIfInBounds]
 split
 ·rename_i hk;subst hk;rw[hf];split
  ·rfl
  ·rename_i hlt;rw[Array.getElem?_eq_none (by simpa using hlt)] at hf;cases hf
 ·rfl
theorem zH {j d:Nat} {x:AV} (ho:ops[j]?=some o) (hg:gok ops o F=true) (hd:o.dst=some d) (hr:Rd P N E o F H x) (hx:F.lookup d=some x):Ag P N E ops F H j:=fun S ρ a w hR=>by
 obtain⟨h1,h2⟩:=hr S ρ a w hR
 refine zC7 ho fun K hK=>?_
 rw[if_pos (zy2 (P:=P) hg hR)]
 unfold Oper.still
 rw[h1]
 refine⟨rfl, ?_⟩
 rw[hd,zb8 hR hx]
 exact hK
theorem zi1 {j d:Nat} (ho:ops[j]?=some o) (hg:gd ops o F=some false) (hd:o.dst=some d) (hx:F.lookup d=some un):Ag P N E ops F H j:=fun S ρ a w hR=>by
 refine zC7 ho fun K hK=>?_
 rw[if_neg (by rw[zL7 hg hR];simp)]
 have:a.put (some d) undef=a:=zb8 hR hx
 rw[hd,this]
 exact hK
end
end Go.Proofs.YtophoepbedlhjaaGreatDoor
-- NEWM
namespace Go.Proofs.YtophoepbedlhjaaGreatDoor
open Go Go.RowKit
set_option maxRecDepth 100000
def usd (x:Nt):Nt:=
 if x.kd=1 then ⟨x.st,x.no,x.at_,x.kd,x.pr,x.jb,[],x.n,[],0⟩
 else if x.kd=2 then ⟨x.st,x.no,x.at_,x.kd,x.pr,[],[],x.n,[],0⟩
 else if x.kd=5 then ⟨x.st,x.no,x.at_,x.kd,x.pr,[],x.sp,x.n,[],0⟩
 else if x.kd=6 then ⟨x.st,x.no,x.at_,x.kd,x.pr,[],[],x.n,[],0⟩
 else if x.kd=7 then ⟨x.st,x.no,x.at_,x.kd,[],[],[],0,x.of_,x.ot⟩
 else ⟨x.st,x.no,x.at_,x.kd,x.pr,[],[],0,[],0⟩
def nmF (x:Nt):Bool:=if x.kd=1 then keyB x.pr && keyB x.jb else if x.kd=5 then keyB x.pr && keyB x.sp else if x.kd=7 then keyB x.of_ else keyB x.pr
def nbF (x:Nt):Bool:=if x.kd=1∨x.kd=2 then !outB x.n 1 1000 else if x.kd=5∨x.kd=6 then !outB x.n 1 100000000 else if x.kd=7 then !outB x.ot 1 1000000 else true
theorem zJ15 (x:Nt):(if keyB x.st=false then 5 else if outB x.no 1 1000000=true∨moB x.at_=false then 1 else if outB x.kd 1 7=true then 4 else if nmF x=false then 5 else if nbF x=false then 1 else if ¬x=usd x then 3 else 0)=ntF x:=by
 obtain⟨st,no,at_,kd,pr,jb,sp,n,of_,ot⟩:=x
 unfold ntF
 simp only
 split
 ·rfl
 split
 ·rfl
 split
 ·rfl
 rename_i h
 have hk7:kd=1∨kd=2∨kd=3∨kd=4∨kd=5∨kd=6∨kd=7:=by
  unfold outB at h
  simp at h
  omega
 rcases hk7 with rfl|rfl|rfl|rfl|rfl|rfl|rfl
 all_goals simp[nmF,nbF,usd,uP,uJ,uS,uU,uM]
 all_goals simp only[Decidable.imp_iff_not_or,Bool.not_eq_true]
set_option maxHeartbeats 4000000 in
theorem zq18 (x:Nt) (hx:NtS x):ACalls Tryz.prog 77 [noA x] [] fun u H=>u = .c (I (ntF x))∧H = []:=by
 rw[←zJ15]
 obtain⟨st,no,at_,kn,pr,jb,sp,n,of_,ot⟩:=x
 obtain⟨b1,b2,b3,b4,b5⟩:=hx
 simp only at b1 b2 b3 b4 b5
 show ACalls _ _ [.a [.c (T st),.c (I no),.c (I at_),.c (I kn),.c (T pr),.c (T jb),.c (T sp),.c (I n),.c (T of_),.c (I ot)]] [] _
 obtain⟨ks0,hks0⟩:∃q,keyB st=q:=⟨_,rfl⟩
 obtain⟨no1,hno⟩:∃q,(!outB no 1 1000000)=q:=⟨_,rfl⟩
 obtain⟨at1,hat⟩:∃q,moB at_=q:=⟨_,rfl⟩
 obtain⟨kn1,hkn⟩:∃q,(!outB kn 1 7)=q:=⟨_,rfl⟩
 obtain⟨kp,hkp⟩:∃q,keyB pr=q:=⟨_,rfl⟩
 obtain⟨kj,hkj⟩:∃q,keyB jb=q:=⟨_,rfl⟩
 obtain⟨ks,hks⟩:∃q,keyB sp=q:=⟨_,rfl⟩
 obtain⟨ko,hko⟩:∃q,keyB of_=q:=⟨_,rfl⟩
 obtain⟨on,hon⟩:∃q,(!outB n 1 1000)=q:=⟨_,rfl⟩
 obtain⟨on2,hon2⟩:∃q,(!outB n 1 100000000)=q:=⟨_,rfl⟩
 obtain⟨oo,hoo⟩:∃q,(!outB ot 1 1000000)=q:=⟨_,rfl⟩
 refine zf (N:=118) Tryz.func77 rfl rfl (by simp) fun E hE=>?_
 refine WA ?_
 refine WA ?_
 refine WR ?_
 refine ze rfl (efk (c:=fun _=>zi5 _ (by omega))) ?_
 rintro _ _ ⟨_,_,_,⟨rfl,rfl⟩,hF,hH⟩
 rw[hkp] at hF
 (refine NST hF hH ?_;clear hF hH;rintro rfl rfl)
 refine WE ?_
 refine WR ?_
 refine zI10 ?_
 refine zk13 ?_
 refine zE1 (fun F H=>∃nm nb,nm=nmF ⟨st,no,at_,kn,pr,jb,sp,n,of_,ot⟩∧nb=nbF ⟨st,no,at_,kn,pr,jb,sp,n,of_,ot⟩∧F = [(1,.p 0 0 0),(2,.c (I 0)),(3,.p 1 0 0),(4,.c (B nm)),(5,.c (B nb))]∧H = [.box [.c (T st),.c (I no),.c (I at_),.c (I kn),.c (T pr),.c (T jb),.c (T sp),.c (I n),.c (T of_),.c (I ot)],.box ((noR (usd ⟨st,no,at_,kn,pr,jb,sp,n,of_,ot⟩)).map .c)]) ?_ ?_ zV2
 ·refine ZZ ?_
  by_cases h1:kn=1
  ·subst h1
   refine WA ?_
   refine zb rfl ?_
   refine ZZ ?_
   refine zd [(0,none),(1,none),(2,none),(3,none),(4,none),(5,some [2,3]),(6,none),(7,some [])] zn (by kernel_rfl) ?_
   refine WQ ?_
   cases kp
   ·refine ZZ ?_
    refine zd [(0,none),(1,none),(2,none),(3,none),(6,none),(7,none),(4,some [6,7]),(5,none),(8,some [5]),(9,none),(10,none)] zn (by kernel_rfl) ?_
    refine WP ?_
    first|refine zF3 rfl rfl rfl (by decide) ⟨zg (by first|exact zu rfl rfl rfl (ZX (KF (t:=37) (f:=7) rfl rfl)) rfl) (zg (by first|exact zu rfl rfl rfl (ZL (KK (t:=3) rfl)) rfl) (zh)), ?_⟩|(refine zG3 rfl (efk (c:=fun _=>zi5 _ (by omega))) ?_;rintro _ _ ⟨_,_,_,⟨rfl,rfl⟩,hF,hH⟩;rw[hkj] at hF;(refine NST hF hH ?_;clear hF hH;rintro rfl rfl);refine⟨zg (by first|exact zu rfl rfl rfl (ZX (KF (t:=37) (f:=7) rfl rfl)) rfl) (zg (by first|exact zu rfl rfl rfl (ZL (KK (t:=3) rfl)) rfl) (zh)), ?_⟩)
    refine WP ?_
    refine zt1 rfl rfl (efk (c:=fun _=>zI5 _ _ _)) ?_
    rintro _ _ ⟨_,_,_,⟨rfl,rfl⟩,hF,hH⟩
    rw[hon] at hF
    (refine NST hF hH ?_;clear hF hH;rintro rfl rfl)
    refine⟨zg (by first|exact zu rfl rfl rfl (zk1 rfl rfl rfl) rfl|exact zu rfl rfl rfl (zl1 rfl rfl rfl) rfl) (zh), ?_⟩
    refine WQ ?_
    refine wkg [some 0,some 1] (fun _=>[(1,.p 0 0 0),(2,.c (I 0)),(3,.p 1 0 0),(4,.c (B false)),(5,.c (B on))]) (fun _=>[.box [.c (T st),.c (I no),.c (I at_),.c (I 1),.c (T pr),.c (T jb),.c (T sp),.c (I n),.c (T of_),.c (I ot)],.box [.c (T st),.c (I no),.c (I at_),.c (I 1),.c (T pr),.c (T jb),.c (T []),.c (I n),.c (T []),.c (I 0)]]) (fun _=>?_)
    exact⟨_,_,by simp[nmF,hkp,hkj,hon],by simp[nbF,hkp,hkj,hon],rfl,rfl⟩
   ·refine ZZ ?_
    refine zd [(0,none),(1,none),(2,none),(3,none),(6,none),(7,none),(4,some [6,7]),(5,none),(8,some [5]),(9,none),(10,none)] zn (by kernel_rfl) ?_
    refine WP ?_
    first|refine zF3 rfl rfl rfl (by decide) ⟨zg (by first|exact zu rfl rfl rfl (ZX (KF (t:=37) (f:=7) rfl rfl)) rfl) (zg (by first|exact zu rfl rfl rfl (ZL (KK (t:=3) rfl)) rfl) (zh)), ?_⟩|(refine zG3 rfl (efk (c:=fun _=>zi5 _ (by omega))) ?_;rintro _ _ ⟨_,_,_,⟨rfl,rfl⟩,hF,hH⟩;rw[hkj] at hF;(refine NST hF hH ?_;clear hF hH;rintro rfl rfl);refine⟨zg (by first|exact zu rfl rfl rfl (ZX (KF (t:=37) (f:=7) rfl rfl)) rfl) (zg (by first|exact zu rfl rfl rfl (ZL (KK (t:=3) rfl)) rfl) (zh)), ?_⟩)
    refine WP ?_
    refine zt1 rfl rfl (efk (c:=fun _=>zI5 _ _ _)) ?_
    rintro _ _ ⟨_,_,_,⟨rfl,rfl⟩,hF,hH⟩
    rw[hon] at hF
    (refine NST hF hH ?_;clear hF hH;rintro rfl rfl)
    refine⟨zg (by first|exact zu rfl rfl rfl (zk1 rfl rfl rfl) rfl|exact zu rfl rfl rfl (zl1 rfl rfl rfl) rfl) (zh), ?_⟩
    refine WQ ?_
    refine wkg [some 0,some 1] (fun _=>[(1,.p 0 0 0),(2,.c (I 0)),(3,.p 1 0 0),(4,.c (B kj)),(5,.c (B on))]) (fun _=>[.box [.c (T st),.c (I no),.c (I at_),.c (I 1),.c (T pr),.c (T jb),.c (T sp),.c (I n),.c (T of_),.c (I ot)],.box [.c (T st),.c (I no),.c (I at_),.c (I 1),.c (T pr),.c (T jb),.c (T []),.c (I n),.c (T []),.c (I 0)]]) (fun _=>?_)
    exact⟨_,_,by simp[nmF,hkp,hkj,hon],by simp[nbF,hkp,hkj,hon],rfl,rfl⟩
  by_cases h2:kn=2
  ·subst h2
   refine WA ?_
   refine za rfl ?_
   refine WA ?_
   refine zb rfl ?_
   refine ZZ ?_
   refine zd [(0,none),(1,none),(2,none),(3,none),(5,none),(4,some [0,1,5]),(6,some []),(7,none)] zn (by kernel_rfl) ?_
   refine WP ?_
   refine zt1 rfl rfl (efk (c:=fun _=>zI5 _ _ _)) ?_
   rintro _ _ ⟨_,_,_,⟨rfl,rfl⟩,hF,hH⟩
   rw[hon] at hF
   (refine NST hF hH ?_;clear hF hH;rintro rfl rfl)
   refine⟨zg (by first|exact zu rfl rfl rfl (ZX (KF (t:=37) (f:=7) rfl rfl)) rfl) (zg (by first|exact zu rfl rfl rfl (ZL (KK (t:=3) rfl)) rfl) (zg (by first|exact zu rfl rfl rfl (ZX (KF (t:=37) (f:=7) rfl rfl)) rfl) (zh))), ?_⟩
   refine WQ ?_
   refine wkg [some 0,some 1] (fun _=>[(1,.p 0 0 0),(2,.c (I 0)),(3,.p 1 0 0),(4,.c (B kp)),(5,.c (B on))]) (fun _=>[.box [.c (T st),.c (I no),.c (I at_),.c (I 2),.c (T pr),.c (T jb),.c (T sp),.c (I n),.c (T of_),.c (I ot)],.box [.c (T st),.c (I no),.c (I at_),.c (I 2),.c (T pr),.c (T []),.c (T []),.c (I n),.c (T []),.c (I 0)]]) (fun _=>?_)
   exact⟨_,_,by simp[nmF,hkp,hon],by simp[nbF,hkp,hon],rfl,rfl⟩
  by_cases h5:kn=5
  ·subst h5
   refine WA ?_
   refine za rfl ?_
   refine WA ?_
   refine za rfl ?_
   refine WA ?_
   refine zb rfl ?_
   refine ZZ ?_
   refine zd [(0,none),(1,none),(2,none),(3,none),(4,none),(5,some [2,3]),(6,none),(7,some [])] zn (by kernel_rfl) ?_
   refine WQ ?_
   cases kp
   ·refine ZZ ?_
    refine zd [(0,none),(1,none),(2,none),(3,none),(6,none),(7,none),(4,some [6,7]),(5,none),(8,some [5]),(9,none),(10,none)] zn (by kernel_rfl) ?_
    refine WP ?_
    first|refine zF3 rfl rfl rfl (by decide) ⟨zg (by first|exact zu rfl rfl rfl (ZX (KF (t:=37) (f:=7) rfl rfl)) rfl) (zg (by first|exact zu rfl rfl rfl (ZL (KK (t:=3) rfl)) rfl) (zh)), ?_⟩|(refine zG3 rfl (efk (c:=fun _=>zi5 _ (by omega))) ?_;rintro _ _ ⟨_,_,_,⟨rfl,rfl⟩,hF,hH⟩;rw[hks] at hF;(refine NST hF hH ?_;clear hF hH;rintro rfl rfl);refine⟨zg (by first|exact zu rfl rfl rfl (ZX (KF (t:=37) (f:=7) rfl rfl)) rfl) (zg (by first|exact zu rfl rfl rfl (ZL (KK (t:=3) rfl)) rfl) (zh)), ?_⟩)
    refine WP ?_
    refine zt1 rfl rfl (efk (c:=fun _=>zI5 _ _ _)) ?_
    rintro _ _ ⟨_,_,_,⟨rfl,rfl⟩,hF,hH⟩
    rw[hon2] at hF
    (refine NST hF hH ?_;clear hF hH;rintro rfl rfl)
    refine⟨zg (by first|exact zu rfl rfl rfl (zk1 rfl rfl rfl) rfl|exact zu rfl rfl rfl (zl1 rfl rfl rfl) rfl) (zh), ?_⟩
    refine WQ ?_
    refine wkg [some 0,some 1] (fun _=>[(1,.p 0 0 0),(2,.c (I 0)),(3,.p 1 0 0),(4,.c (B false)),(5,.c (B on2))]) (fun _=>[.box [.c (T st),.c (I no),.c (I at_),.c (I 5),.c (T pr),.c (T jb),.c (T sp),.c (I n),.c (T of_),.c (I ot)],.box [.c (T st),.c (I no),.c (I at_),.c (I 5),.c (T pr),.c (T []),.c (T sp),.c (I n),.c (T []),.c (I 0)]]) (fun _=>?_)
    exact⟨_,_,by simp[nmF,hkp,hks,hon2],by simp[nbF,hkp,hks,hon2],rfl,rfl⟩
   ·refine ZZ ?_
    refine zd [(0,none),(1,none),(2,none),(3,none),(6,none),(7,none),(4,some [6,7]),(5,none),(8,some [5]),(9,none),(10,none)] zn (by kernel_rfl) ?_
    refine WP ?_
    first|refine zF3 rfl rfl rfl (by decide) ⟨zg (by first|exact zu rfl rfl rfl (ZX (KF (t:=37) (f:=7) rfl rfl)) rfl) (zg (by first|exact zu rfl rfl rfl (ZL (KK (t:=3) rfl)) rfl) (zh)), ?_⟩|(refine zG3 rfl (efk (c:=fun _=>zi5 _ (by omega))) ?_;rintro _ _ ⟨_,_,_,⟨rfl,rfl⟩,hF,hH⟩;rw[hks] at hF;(refine NST hF hH ?_;clear hF hH;rintro rfl rfl);refine⟨zg (by first|exact zu rfl rfl rfl (ZX (KF (t:=37) (f:=7) rfl rfl)) rfl) (zg (by first|exact zu rfl rfl rfl (ZL (KK (t:=3) rfl)) rfl) (zh)), ?_⟩)
    refine WP ?_
    refine zt1 rfl rfl (efk (c:=fun _=>zI5 _ _ _)) ?_
    rintro _ _ ⟨_,_,_,⟨rfl,rfl⟩,hF,hH⟩
    rw[hon2] at hF
    (refine NST hF hH ?_;clear hF hH;rintro rfl rfl)
    refine⟨zg (by first|exact zu rfl rfl rfl (zk1 rfl rfl rfl) rfl|exact zu rfl rfl rfl (zl1 rfl rfl rfl) rfl) (zh), ?_⟩
    refine WQ ?_
    refine wkg [some 0,some 1] (fun _=>[(1,.p 0 0 0),(2,.c (I 0)),(3,.p 1 0 0),(4,.c (B ks)),(5,.c (B on2))]) (fun _=>[.box [.c (T st),.c (I no),.c (I at_),.c (I 5),.c (T pr),.c (T jb),.c (T sp),.c (I n),.c (T of_),.c (I ot)],.box [.c (T st),.c (I no),.c (I at_),.c (I 5),.c (T pr),.c (T []),.c (T sp),.c (I n),.c (T []),.c (I 0)]]) (fun _=>?_)
    exact⟨_,_,by simp[nmF,hkp,hks,hon2],by simp[nbF,hkp,hks,hon2],rfl,rfl⟩
  by_cases h6:kn=6
  ·subst h6
   refine WA ?_
   refine za rfl ?_
   refine WA ?_
   refine za rfl ?_
   refine WA ?_
   refine za rfl ?_
   refine WA ?_
   refine zb rfl ?_
   refine ZZ ?_
   refine zd [(0,none),(1,none),(2,none),(3,none),(5,none),(4,some [0,1,5]),(6,some []),(7,none)] zn (by kernel_rfl) ?_
   refine WP ?_
   refine zt1 rfl rfl (efk (c:=fun _=>zI5 _ _ _)) ?_
   rintro _ _ ⟨_,_,_,⟨rfl,rfl⟩,hF,hH⟩
   rw[hon2] at hF
   (refine NST hF hH ?_;clear hF hH;rintro rfl rfl)
   refine⟨zg (by first|exact zu rfl rfl rfl (ZX (KF (t:=37) (f:=7) rfl rfl)) rfl) (zg (by first|exact zu rfl rfl rfl (ZL (KK (t:=3) rfl)) rfl) (zg (by first|exact zu rfl rfl rfl (ZX (KF (t:=37) (f:=7) rfl rfl)) rfl) (zh))), ?_⟩
   refine WQ ?_
   refine wkg [some 0,some 1] (fun _=>[(1,.p 0 0 0),(2,.c (I 0)),(3,.p 1 0 0),(4,.c (B kp)),(5,.c (B on2))]) (fun _=>[.box [.c (T st),.c (I no),.c (I at_),.c (I 6),.c (T pr),.c (T jb),.c (T sp),.c (I n),.c (T of_),.c (I ot)],.box [.c (T st),.c (I no),.c (I at_),.c (I 6),.c (T pr),.c (T []),.c (T []),.c (I n),.c (T []),.c (I 0)]]) (fun _=>?_)
   exact⟨_,_,by simp[nmF,hkp,hon2],by simp[nbF,hkp,hon2],rfl,rfl⟩
  by_cases h7:kn=7
  ·subst h7
   refine WA ?_
   refine za rfl ?_
   refine WA ?_
   refine za rfl ?_
   refine WA ?_
   refine za rfl ?_
   refine WA ?_
   refine za rfl ?_
   refine WA ?_
   refine zb rfl ?_
   refine ZZ ?_
   refine zd [(0,none),(1,none),(2,none),(3,none),(4,none),(5,some [0,1,2,3]),(6,none),(7,some [2,3]),(8,none),(9,some [])] zn (by kernel_rfl) ?_
   refine WQ ?_
   refine ZZ ?_
   refine zd [(0,none),(1,none),(3,none),(4,none),(2,some [3,4]),(5,some []),(6,none),(7,none)] zn (by kernel_rfl) ?_
   refine WP ?_
   refine zt1 rfl rfl (efk (c:=fun _=>zi5 _ (by omega))) ?_
   rintro _ _ ⟨_,_,_,⟨rfl,rfl⟩,hF,hH⟩
   rw[hko] at hF
   (refine NST hF hH ?_;clear hF hH;rintro rfl rfl)
   refine⟨zg (by first|exact zu rfl rfl rfl (ZX (KF (t:=37) (f:=9) rfl rfl)) rfl) (zg (by first|exact zu rfl rfl rfl (ZL (KK (t:=3) rfl)) rfl) (zh)), ?_⟩
   refine zt1 rfl rfl (efk (c:=fun _=>zI5 _ _ _)) ?_
   rintro _ _ ⟨_,_,_,⟨rfl,rfl⟩,hF,hH⟩
   rw[hoo] at hF
   (refine NST hF hH ?_;clear hF hH;rintro rfl rfl)
   refine⟨zh, ?_⟩
   refine WQ ?_
   refine wkg [some 0,some 1] (fun _=>[(1,.p 0 0 0),(2,.c (I 0)),(3,.p 1 0 0),(4,.c (B ko)),(5,.c (B oo))]) (fun _=>[.box [.c (T st),.c (I no),.c (I at_),.c (I 7),.c (T pr),.c (T jb),.c (T sp),.c (I n),.c (T of_),.c (I ot)],.box [.c (T st),.c (I no),.c (I at_),.c (I 7),.c (T []),.c (T []),.c (T []),.c (I 0),.c (T of_),.c (I ot)]]) (fun _=>?_)
   exact⟨_,_,by simp[nmF,hko,hoo],by simp[nbF,hko,hoo],rfl,rfl⟩
  refine WA ?_
  refine za rfl ?_
  refine WA ?_
  refine za rfl ?_
  refine WA ?_
  refine za rfl ?_
  refine WA ?_
  refine za rfl ?_
  refine WA ?_
  refine za rfl ?_
  refine ZZ ?_
  refine wkg [some 0,some 1] (fun _=>[(1,.p 0 0 0),(2,.c (I 0)),(3,.p 1 0 0),(4,.c (B kp)),(5,.c (B true))]) (fun _=>[.box [.c (T st),.c (I no),.c (I at_),.c (I kn),.c (T pr),.c (T jb),.c (T sp),.c (I n),.c (T of_),.c (I ot)],.box [.c (T st),.c (I no),.c (I at_),.c (I kn),.c (T pr),.c (T []),.c (T []),.c (I 0),.c (T []),.c (I 0)]]) (fun _=>?_)
  exact⟨_,_,by simp[nmF,h1,h2,h5,h6,h7,hkp],by simp[nbF,h1,h2,h5,h6,h7,hkp],rfl,by rw[show usd ⟨st,no,at_,kn,pr,jb,sp,n,of_,ot⟩=⟨st,no,at_,kn,pr,[],[],0,[],0⟩ by simp[usd,h1,h2,h5,h6,h7]];rfl⟩
 rintro F H ⟨nm,nb,hnm,hnb,rfl,rfl⟩
 refine ZZ ?_
 generalize hU:usd ⟨st,no,at_,kn,pr,jb,sp,n,of_,ot⟩=U
 obtain⟨ne,hne⟩:∃q,decide (¬(⟨st,no,at_,kn,pr,jb,sp,n,of_,ot⟩:Nt)=U)=q:=⟨_,rfl⟩
 obtain⟨c0,c1,c2,c3,c4,c5,c6,c7,c8,c9⟩:=U
 have hN:(noR ⟨c0,c1,c2,c3,c4,c5,c6,c7,c8,c9⟩).map AV.c = [.c (T c0),.c (I c1),.c (I c2),.c (I c3),.c (T c4),.c (T c5),.c (T c6),.c (I c7),.c (T c8),.c (I c9)]:=rfl
 rw[hN]
 refine WR ?_
 refine ze rfl (efk (c:=fun _=>zi5 _ (by omega))) ?_
 rintro _ _ ⟨_,_,_,⟨rfl,rfl⟩,hF,hH⟩
 rw[hks0] at hF
 (refine NST hF hH ?_;clear hF hH;rintro rfl rfl)
 refine WE ?_
 cases ks0
 ·refine zb rfl ?_
  refine WA ?_
  exact arz (q:=⟨congrArg (fun z=>AV.c (I z)) (by simp[hks0]),rfl⟩)
 refine za rfl ?_
 refine ZZ ?_
 cases no1
 ·refine WR ?_
  refine ze rfl (efk (c:=fun _=>zI5 _ _ _)) ?_
  rintro _ _ ⟨_,_,_,⟨rfl,rfl⟩,hF,hH⟩
  rw[hno] at hF
  (refine NST hF hH ?_;clear hF hH;rintro rfl rfl)
  refine WO ?_
  first|refine ZS ?_|(refine G1 rfl ?_;refine ze rfl (efk (c:=fun _=>zi7 _)) ?_;rintro _ _ ⟨_,_,_,⟨rfl,rfl⟩,hF,hH⟩;rw[hat] at hF;(refine NST hF hH ?_;clear hF hH;rintro rfl rfl))|skip
  refine WE ?_
  refine zb rfl ?_
  refine WA ?_
  exact arz (q:=⟨congrArg (fun z=>AV.c (I z)) (by simp at hno;simp[hks0,hno]),rfl⟩)
 cases at1
 ·refine WR ?_
  refine ze rfl (efk (c:=fun _=>zI5 _ _ _)) ?_
  rintro _ _ ⟨_,_,_,⟨rfl,rfl⟩,hF,hH⟩
  rw[hno] at hF
  (refine NST hF hH ?_;clear hF hH;rintro rfl rfl)
  refine WO ?_
  first|refine ZS ?_|(refine G1 rfl ?_;refine ze rfl (efk (c:=fun _=>zi7 _)) ?_;rintro _ _ ⟨_,_,_,⟨rfl,rfl⟩,hF,hH⟩;rw[hat] at hF;(refine NST hF hH ?_;clear hF hH;rintro rfl rfl))|skip
  refine WE ?_
  refine zb rfl ?_
  refine WA ?_
  exact arz (q:=⟨congrArg (fun z=>AV.c (I z)) (by simp at hno;simp[hks0,hno,hat]),rfl⟩)
 refine WR ?_
 refine ze rfl (efk (c:=fun _=>zI5 _ _ _)) ?_
 rintro _ _ ⟨_,_,_,⟨rfl,rfl⟩,hF,hH⟩
 rw[hno] at hF
 (refine NST hF hH ?_;clear hF hH;rintro rfl rfl)
 refine WO ?_
 first|refine ZS ?_|(refine G1 rfl ?_;refine ze rfl (efk (c:=fun _=>zi7 _)) ?_;rintro _ _ ⟨_,_,_,⟨rfl,rfl⟩,hF,hH⟩;rw[hat] at hF;(refine NST hF hH ?_;clear hF hH;rintro rfl rfl))|skip
 refine WE ?_
 refine za rfl ?_
 refine WR ?_
 refine ze rfl (efk (c:=fun _=>zI5 _ _ _)) ?_
 rintro _ _ ⟨_,_,_,⟨rfl,rfl⟩,hF,hH⟩
 rw[hkn] at hF
 (refine NST hF hH ?_;clear hF hH;rintro rfl rfl)
 refine WE ?_
 cases kn1
 ·refine zb rfl ?_
  refine WA ?_
  exact arz (q:=⟨congrArg (fun z=>AV.c (I z)) (by simp at hno hkn;simp[hks0,hno,hat,hkn]),rfl⟩)
 refine za rfl ?_
 refine WA ?_
 cases nm
 ·refine zb rfl ?_
  refine WA ?_
  exact arz (q:=⟨congrArg (fun z=>AV.c (I z)) (by simp at hno hkn;simp[hks0,hno,hat,hkn,←hnm]),rfl⟩)
 refine za rfl ?_
 refine WA ?_
 cases nb
 ·refine zb rfl ?_
  refine WA ?_
  exact arz (q:=⟨congrArg (fun z=>AV.c (I z)) (by simp at hno hkn;simp[hks0,hno,hat,hkn,←hnm,←hnb]),rfl⟩)
 refine za rfl ?_
 refine ZR ?_
 iterate 2 refine WX1 ?_
 refine ZA (zO8 (a:=⟨st,no,at_,kn,pr,jb,sp,n,of_,ot⟩) (b:=⟨c0,c1,c2,c3,c4,c5,c6,c7,c8,c9⟩) hne rfl rfl rfl) ?_
 refine WE ?_
 cases ne
 ·refine za rfl ?_
  refine WA ?_
  exact arz (q:=⟨congrArg (fun z=>AV.c (I z)) (by simp at hno hkn;rw[if_neg (by simp[hks0]),if_neg (by simp[hno,hat]),if_neg (by simp[hkn]),if_neg (by rw[←hnm];simp),if_neg (by rw[←hnb];simp),if_neg (of_decide_eq_false hne)]),rfl⟩)
 ·refine zb rfl ?_
  refine WA ?_
  exact arz (q:=⟨congrArg (fun z=>AV.c (I z)) (by simp at hno hkn;rw[if_neg (by simp[hks0]),if_neg (by simp[hno,hat]),if_neg (by simp[hkn]),if_neg (by rw[←hnm];simp),if_neg (by rw[←hnb];simp),if_pos (of_decide_eq_true hne)]),rfl⟩)
end Go.Proofs.YtophoepbedlhjaaGreatDoor
namespace Go.Proofs.YtophoepbedlhjaaGreatDoor
open Go Go.RowKit
set_option maxRecDepth 100000
def cmpI (m n:Int):Int:=if m < n then -1 else if n < m then 1 else 0
theorem zB14 (n:Int):ACalls Tryz.prog 136 [.c (I n)] [] fun u H=>u = .c (B false)∧H = []:=by
 have hn:¬n≠n:=fun h=>h rfl
 refine zf (N:=6) Tryz.func136 rfl rfl (by simp) fun E hE=>?_
 repeat' (first
  | refine ZY ?_
  | refine zo rfl (by assumption) ?_|refine zm rfl (by assumption) ?_|refine zl rfl (fun _=>?_) (fun _=>?_)|refine zj rfl (fun _=>?_) (fun _=>?_)
  | (refine zc ?_;refine WE ?_))
 exact arz (q:=⟨by simp,rfl⟩)
theorem zV12 (m n:Int):ACalls Tryz.prog 71 [.c (I m),.c (I n)] [] fun u H=>u = .c (I (cmpI m n))∧H = []:=by
 refine zf (N:=20) Tryz.func71 rfl rfl (by simp) fun E hE=>?_
 repeat' (first
  | refine ZY ?_
  | refine zo rfl (by assumption) ?_|refine zm rfl (by assumption) ?_|refine zl rfl (fun _=>?_) (fun _=>?_)|refine zj rfl (fun _=>?_) (fun _=>?_)
  | (refine zc (id:=1) ?_
     refine WO ?_
     refine ze rfl (zz false (fun _=>zB14 _) rfl .fn rfl (by decide) (by kernel_rfl) rfl (fun _g=>.cons (.c rfl) .nil) (by simp)) ?_
     rintro _ _ ⟨_,_,_,⟨rfl,rfl⟩,hF,hH⟩
     (refine NST hF hH ?_;clear hF hH;rintro rfl rfl)
     refine WE ?_)
  | (refine zc (id:=2) ?_
     refine WO ?_
     refine ze rfl (zz false (fun _=>zB14 _) rfl .fn rfl (by decide) (by kernel_rfl) rfl (fun _g=>.cons (.c rfl) .nil) (by simp)) ?_
     rintro _ _ ⟨_,_,_,⟨rfl,rfl⟩,hF,hH⟩
     (refine NST hF hH ?_;clear hF hH;rintro rfl rfl)
     refine WE ?_)
  | (refine zc ?_;refine WE ?_))
 all_goals (refine arz (q:=⟨?_,rfl⟩))
 all_goals (unfold cmpI;first|rw[if_pos (by omega)]|rw[if_neg (by omega),if_pos (by omega)]|rw[if_neg (by omega),if_neg (by omega)])
end Go.Proofs.YtophoepbedlhjaaGreatDoor
-- NEWM
namespace Go.Proofs.YtophoepbedlhjaaGreatDoor
open Go Go.RowKit
set_option maxRecDepth 100000
def fstN:List Int→Int
 | []=>0
 | a :: l=>if a=0 then fstN l else a
theorem zD12 {l:List Int} {k:Nat} {n:Int} (h:l[k]?=some n):fstN (l.drop k)=if n=0 then fstN (l.drop (k+1)) else n:=by
 obtain⟨h1,h2⟩:=List.getElem?_eq_some_iff.1 h
 rw[List.drop_eq_getElem_cons h1,h2];rfl
abbrev nR (l:List Int):List (List CV):=l.map fun n=>[I n]
theorem zt18 (l:List Int) (v:Value) (hl:l.length≤1000000):ACalls Tryz.prog 70 [.c (.r v (nR l))] [] fun u H=>u = .c (I (fstN l))∧H = []:=by
 have e1:(nR l).length=l.length:=by simp
 refine zf (N:=18) Tryz.func70 rfl rfl (by simp) fun E hE=>?_
 refine WA ?_
 refine WA ?_
 refine WA ?_
 refine zq (fun m F H=>∃(k:Nat),m+k=l.length∧fstN (l.drop k)=fstN l∧F = [(3,.c (I 0)),(6,.c (.r v (nR l))),(7,.c (I (nR l).length)),(8,.c (I k))]∧H = []) ?_ ?_
 ·refine wkg [] (fun _=>[(3,.c (I 0)),(6,.c (.r v (nR l))),(7,.c (I (nR l).length)),(8,.c (I (0:Nat)))]) (fun _=>[]) (fun _=>?_) (hH:=fun _=>.nil)
  exact⟨l.length,0,by omega,rfl,rfl,rfl⟩
 rintro m F H ⟨k,hk,hf,rfl,rfl⟩
 refine WA ?_
 refine zl rfl (fun hlt=>?_) (fun hge=>?_)
 ·obtain⟨n,hn⟩:∃n,l[k]?=some n:=⟨_,List.getElem?_eq_getElem (by omega)⟩
  have hrow:(nR l)[k]?=some [I n]:=by rw[List.getElem?_map,hn];rfl
  have hd:=zD12 hn
  refine WA ?_
  refine WA ?_
  refine zl rfl (fun hv=>?_) (fun hv=>?_)
  ·refine WA ?_
   exact arz (q:=⟨by rw[←hf,hd,if_neg hv],rfl⟩)
  ·refine WA ?_
   refine wkg [] (fun _=>[(3,.c (I 0)),(6,.c (.r v (nR l))),(7,.c (I (nR l).length)),(8,.c (I (k+1:Nat)))]) (fun _=>[]) (fun _=>?_) (hH:=fun _=>.nil)
   exact⟨m - 1,by omega,k+1,by omega,by rw[←hf,hd,if_pos (by omega)],rfl,rfl⟩
 refine WA ?_
 exact arz (q:=⟨by rw[←hf,List.drop_eq_nil_of_le (by omega)];rfl,rfl⟩)
def cmpLs:List Int→List Int→Int
 | [],[]=>0
 | [],_ :: _=>-1
 | _ :: _,[]=>1
 | x :: a,y :: b=>if cmpI x y≠0 then cmpI x y else cmpLs a b
theorem zE14 {l:List Int} {k:Nat} {n:Int} (h:l[k]?=some n):l.drop k=n :: l.drop (k+1):=by
 obtain⟨h1,h2⟩:=List.getElem?_eq_some_iff.1 h
 rw[List.drop_eq_getElem_cons h1,h2]
set_option maxHeartbeats 1000000 in
theorem zy8 (a b:List Int) (va vb:Value) (ha:a.length≤1000000) (hb:b.length≤1000000):ACalls Tryz.prog 87 [.c (.r va (nR a)),.c (.r vb (nR b))] [] fun u H=>u = .c (I (cmpLs a b))∧H = []:=by
 have e1:(nR a).length=a.length:=by simp
 have e2:(nR b).length=b.length:=by simp
 refine zf (N:=36) Tryz.func87 rfl rfl (by simp) fun E hE=>?_
 refine WA ?_
 refine WA ?_
 refine zq (fun m F H=>∃(k:Nat),m+k=a.length∧k≤b.length∧cmpLs (a.drop k) (b.drop k)=cmpLs a b∧F = [(0,.c (.r va (nR a))),(1,.c (.r vb (nR b))),(9,.c (.r va (nR a))),(10,.c (I (nR a).length)),(11,.c (I k))]∧H = []) ?_ ?_
 ·refine wkg [] (fun _=>[(0,.c (.r va (nR a))),(1,.c (.r vb (nR b))),(9,.c (.r va (nR a))),(10,.c (I (nR a).length)),(11,.c (I (0:Nat)))]) (fun _=>[]) (fun _=>?_) (hH:=fun _=>.nil)
  exact⟨a.length,0,by omega,by omega,rfl,rfl,rfl⟩
 rintro m F H ⟨k,hk,hkb,hf,rfl,rfl⟩
 refine WA ?_
 refine zl rfl (fun hlt=>?_) (fun hge=>?_)
 ·obtain⟨x,hx⟩:∃n,a[k]?=some n:=⟨_,List.getElem?_eq_getElem (by omega)⟩
  have hrow:(nR a)[k]?=some [I x]:=by rw[List.getElem?_map,hx];rfl
  have hd:=zE14 hx
  rw[hd] at hf
  refine WA ?_
  refine WA ?_
  refine zl rfl (fun h1=>?_) (fun h1=>?_)
  ·have hv:cmpLs a b=1:=by rw[←hf,List.drop_eq_nil_of_le (show b.length≤k by omega)];rfl
   rw[hv]
   refine WA ?_
   exact arz (q:=⟨rfl,rfl⟩)
  obtain⟨y,hy⟩:∃n,b[k]?=some n:=⟨_,List.getElem?_eq_getElem (by omega)⟩
  have hrow2:(nR b)[k]?=some [I y]:=by rw[List.getElem?_map,hy];rfl
  rw[zE14 hy,cmpLs] at hf
  refine WA ?_
  refine WR ?_
  refine ze rfl (zz false (fun _=>zV12 _ _) rfl .fn rfl (by decide) (by kernel_rfl) rfl (fun _g=>.cons (.c rfl) (.cons (.c rfl) .nil)) (by simp)) ?_
  rintro _ _ ⟨_,_,_,⟨rfl,rfl⟩,hF,hH⟩
  (refine NST hF hH ?_;clear hF hH;rintro rfl rfl)
  refine WE ?_
  generalize cmpI x y=z at *
  refine WA ?_
  refine zl rfl (fun h0=>?_) (fun h0=>?_)
  ·rw[if_pos h0] at hf
   rw[←hf]
   refine WA ?_
   exact arz (q:=⟨rfl,rfl⟩)
  ·rw[if_neg h0] at hf
   refine WA ?_
   refine wkg [] (fun _=>[(0,.c (.r va (nR a))),(1,.c (.r vb (nR b))),(9,.c (.r va (nR a))),(10,.c (I (nR a).length)),(11,.c (I (k+1:Nat)))]) (fun _=>[]) (fun _=>?_) (hH:=fun _=>.nil)
   exact⟨m - 1,by omega,k+1,by omega,by omega,hf,rfl,rfl⟩
 rw[List.drop_eq_nil_of_le (show a.length≤k by omega)] at hf
 refine WA ?_
 refine zl rfl (fun h0=>?_) (fun h0=>?_)
 ·have hv:cmpLs a b = -1:=by
   rw[←hf]
   cases hb2:b.drop k with
   | nil=>have:=List.drop_eq_nil_iff.1 hb2;omega
   | cons y l=>rfl
  rw[hv]
  refine WA ?_
  exact arz (q:=⟨rfl,rfl⟩)
 ·have hv:cmpLs a b=0:=by rw[←hf,List.drop_eq_nil_of_le (show b.length≤k by omega)];rfl
  rw[hv]
  refine WA ?_
  exact arz (q:=⟨rfl,rfl⟩)
theorem zU12 {m n:Int}:cmpI m n < 0↔m < n:=by unfold cmpI;split <;> (try split) <;> omega
theorem cmpN_0 {m n:Int}:cmpI m n=0↔m=n:=by unfold cmpI;split <;> (try split) <;> omega
def cmpB:List UInt8→List UInt8→Int
 | [],[]=>0
 | [],_ :: _=>-1
 | _ :: _,[]=>1
 | x :: a,y :: b=>if x=y then cmpB a b else if x < y then -1 else 1
theorem cmpB_eq:∀{a b:List UInt8},cmpB a b=0↔a=b
 | [],[]=>by simp[cmpB]
 | [],_ :: _=>by simp[cmpB]
 | _ :: _,[]=>by simp[cmpB]
 | x :: a,y :: b=>by
  unfold cmpB
  split
  ·rename_i h;rw[cmpB_eq];simp[h]
  ·rename_i h;split <;> simp[h]
theorem zy7:∀{a b:List UInt8},cmpB b a = - cmpB a b
 | [],[]=>by simp[cmpB]
 | [],_ :: _=>by simp[cmpB]
 | _ :: _,[]=>by simp[cmpB]
 | x :: a,y :: b=>by
  unfold cmpB
  by_cases h:x=y
  ·subst h;rw[if_pos rfl,if_pos rfl,zy7]
  ·rw[if_neg h,if_neg (Ne.symm h)]
   have h2:x.toNat≠y.toNat:=fun e=>h (UInt8.toNat_inj.1 e)
   by_cases h3:x < y
   ·have h3':x.toNat < y.toNat:=h3
    rw[if_pos h3,if_neg (show ¬y < x from fun e=>by have:y.toNat < x.toNat:=e;omega)];rfl
   ·have h3':¬x.toNat < y.toNat:=h3
    rw[if_neg h3,if_pos (show y < x from by show y.toNat < x.toNat;omega)]
theorem zu6:∀{a b c:List UInt8},cmpB a b < 0→cmpB b c < 0→cmpB a c < 0
 | [],[],_=>by simp[cmpB]
 | _,_ :: _,[]=>by simp[cmpB]
 | [],_ :: _,_ :: _=>by simp[cmpB]
 | _ :: _,[],_=>by simp[cmpB]
 | x :: a,y :: b,z :: c=>by
  intro h1 h2
  unfold cmpB at h1 h2 ⊢
  by_cases e1:x=y
  ·subst e1
   rw[if_pos rfl] at h1
   by_cases e2:x=z
   ·subst e2
    rw[if_pos rfl] at h2 ⊢
    exact zu6 h1 h2
   ·rw[if_neg e2] at h2 ⊢;exact h2
  ·rw[if_neg e1] at h1
   split at h1
   ·rename_i h3
    have h3':x.toNat < y.toNat:=h3
    by_cases e2:y=z
    ·subst e2;rw[if_neg e1,if_pos h3];decide
    ·rw[if_neg e2] at h2
     split at h2
     ·rename_i h4
      have h4':y.toNat < z.toNat:=h4
      rw[if_neg (fun e=>by subst e;omega),if_pos (show x < z from by show x.toNat < z.toNat;omega)]
      decide
     ·omega
   ·omega
theorem zA10 {a b:List UInt8}:∀(n i:Nat),i+n=min a.length b.length→(match (List.range' i n).find? (fun i=>(bst a)[i]! != (bst b)[i]!) with|some i=>if (bst a)[i]! < (bst b)[i]! then (-1:Int) else 1|none=>if a.length < b.length then -1 else if a.length > b.length then 1 else 0)=cmpB (a.drop i) (b.drop i)
 | 0,i,h=>by
  show (if a.length < b.length then (-1:Int) else if a.length > b.length then 1 else 0)=_
  by_cases h1:a.length < b.length
  ·rw[if_pos h1,List.drop_eq_nil_of_le (show a.length≤i by omega)]
   cases hb:b.drop i with
   | nil=>have:=List.drop_eq_nil_iff.1 hb;omega
   | cons y l=>rfl
  ·rw[if_neg h1,List.drop_eq_nil_of_le (show b.length≤i by omega)]
   by_cases h2:a.length > b.length
   ·rw[if_pos h2]
    cases ha:a.drop i with
    | nil=>have:=List.drop_eq_nil_iff.1 ha;omega
    | cons y l=>rfl
   ·rw[if_neg h2,List.drop_eq_nil_of_le (show a.length≤i by omega)];rfl
 | n+1,i,h=>by
  have hi:i < a.length:=by omega
  have hj:i < b.length:=by omega
  rw[List.drop_eq_getElem_cons hi,List.drop_eq_getElem_cons hj,List.range'_succ,List.find?_cons]
  have hg:∀(l:List UInt8) (hl:i < l.length),(bst l)[i]! = l[i]:=fun l hl=>by
   rw[getElem!_pos (bst l) i (by rw[zu1];exact hl)];rfl
  rw[hg a hi,hg b hj,cmpB]
  by_cases hc:a[i]=b[i]
  ·rw[if_pos hc,show (a[i] != b[i])=false by simp[hc]]
   exact zA10 n (i+1) (by omega)
  ·rw[if_neg hc,show (a[i] != b[i])=true by simpa using hc]
   show (if (bst a)[i]! < (bst b)[i]! then (-1:Int) else 1)=_
   rw[hg a hi,hg b hj]
theorem zn16 (a b:List UInt8):Extern.BytealgCompare.cmp (bst a) (bst b)=cmpB a b:=by
 have:=zA10 (a:=a) (b:=b) (min a.length b.length) 0 (by omega)
 rw[List.drop_zero,List.drop_zero] at this
 rw[←this]
 unfold Extern.BytealgCompare.cmp
 rw[zu1,zu1,List.range_eq_range']
 cases (List.range' 0 (min a.length b.length)).find? fun i=>(bst a)[i]! != (bst b)[i]! <;> rfl
theorem zS10 {P:Program} (a b:List UInt8) (w:World):(Extern.BytealgCompare.compare #[.string (bst a),.string (bst b)]).run P w = .ok (.int .i64 (cmpB a b)) w:=by
 rw[←zn16]
 show (do pure (goInt (Extern.BytealgCompare.cmp (←Extern.Bytes.bytesOf (.string (bst a))) (←Extern.Bytes.bytesOf (.string (bst b))))):Sem Value).run P w=_
 rfl
theorem zU17 (a b:List UInt8):ACalls Tryz.prog 137 [.c (T a),.c (T b)] [] fun u H=>u = .c (I (cmpB a b))∧H = []:=by
 refine zf (N:=8) Tryz.func137 rfl rfl (by simp) fun E hE=>?_
 repeat' (first
  | refine ZY ?_
  | refine zo rfl (by assumption) ?_|refine zm rfl (by assumption) ?_|refine zl rfl (fun _=>?_) (fun _=>?_)|refine zj rfl (fun _=>?_) (fun _=>?_)
  | (refine zc (id:=1) ?_
     refine WO ?_
     refine ZA (zy14 (us:=[.string (bst a),.string (bst b)]) rfl rfl (fun _ _=>rfl) Tryz.func217 (by decide +kernel) rfl rfl rfl (fun w=>zS10 a b w)) ?_
     refine WE ?_)
  | (refine zc ?_;refine WE ?_))
 exact arz (q:=⟨rfl,rfl⟩)
theorem zr14 (a b:List UInt8):ACalls Tryz.prog 72 [.c (T a),.c (T b)] [] fun u H=>u = .c (I (cmpB a b))∧H = []:=by
 refine zf (N:=8) Tryz.func72 rfl rfl (by simp) fun E hE=>?_
 repeat' (first
  | refine ZY ?_
  | refine zo rfl (by assumption) ?_|refine zm rfl (by assumption) ?_|refine zl rfl (fun _=>?_) (fun _=>?_)|refine zj rfl (fun _=>?_) (fun _=>?_)
  | (refine zc (id:=1) ?_
     refine WO ?_
     refine ze rfl (efk (c:=fun _=>zU17 _ _)) ?_
     rintro _ _ ⟨_,_,_,⟨rfl,rfl⟩,hF,hH⟩
     (refine NST hF hH ?_;clear hF hH;rintro rfl rfl)
     refine WE ?_)
  | (refine zc ?_;refine WE ?_))
 exact arz (q:=⟨rfl,rfl⟩)
end Go.Proofs.YtophoepbedlhjaaGreatDoor
