/- Closed calls: what operations read. Conditions: none. -/
import Derived.Test.YtophoepbedlhjaaGreatDoorQbm
import Derived.Test.YtophoepbedlhjaaGreatDoorQbb
import Derived.Test.YtophoepbedlhjaaGreatDoorQau
import Derived.Test.YtophoepbedlhjaaGreatDoorQam
import Derived.LoopN
set_option linter.unusedSimpArgs false
set_option linter.unusedVariables false
namespace Go.Proofs.YtophoepbedlhjaaGreatDoor
open Go Go.RowKit
set_option maxRecDepth 100000
def sidOf:List CV→Sid2
 | [.s (.int _ a),.s (.int _ b)]=>⟨a,b⟩
 | _=>⟨0,0⟩
theorem zW6 (s:Sid2):sidOf s.row=s:=rfl
theorem fst0_two (a b:Int):fst0 [a,b]=if a=0 then b else a:=by
 simp only[fst0];split <;> simp_all
theorem zH7 (a b:Sid2):sidC a b < 0↔(a.f < b.f∨(a.f=b.f∧a.t < b.t)):=by
 unfold sidC
 rw[fst0_two]
 unfold cmpI
 split <;> split <;> omega
theorem sortS_v (l:List Sid2) (c:Nat) (hl:l.length≤1000000):ACallsX true Tryz.prog 107 [.o 0 0 l.length c,.f (.func 108) []] [.arr 189 2 c (sR l)] fun u H=>∃l':List Sid2,l'.Perm l∧u = .t []∧H = [.arr 189 2 c (sR l')]:=by
 have h:=zu8 sortSideL (k:=2) (fun w=>Tryz.isAgg189 w) (fun w=>Tryz.sizeOf189 w) (fun x=>∃s:Sid2,x=s.row) (fun x y=>sidC (sidOf x) (sidOf y)) (g:=108) (by kernel_rfl)
  (by rintro _ ⟨s,rfl⟩;rw[zH7];omega)
  (by rintro _ _ _ ⟨a,rfl⟩ ⟨b,rfl⟩ ⟨c,rfl⟩;simp only[zH7,zW6];omega)
  (by rintro _ _ _ ⟨a,rfl⟩ ⟨b,rfl⟩ ⟨c,rfl⟩;simp only[zH7,zW6];omega)
  (by rintro _ _ ⟨a,rfl⟩ ⟨b,rfl⟩;exact sidC_v a b)
  (sR l) (by intro r hr;obtain⟨s,_,rfl⟩:=List.mem_map.1 hr;exact⟨s,rfl⟩) (by simp;omega) (e:=189) (cap:=c) (n:=l.length) (c:=c) (pn:=true) (by simp)
 refine ACallsX.mono h fun u H=>?_
 rintro⟨rows',rfl,rfl,hp,_⟩
 refine⟨rows'.map sidOf, ?_,rfl, ?_⟩
 ·have h2:=hp.map sidOf
  rwa [List.map_map,show (sidOf ∘ Sid2.row)=id from funext fun s=>rfl,List.map_id] at h2
 ·congr 2
  rw[sR,List.map_map]
  refine(List.map_id _).symm.trans (List.map_congr_left fun r hr=>?_)
  obtain⟨s,_,rfl⟩:=List.mem_map.1 (hp.subset hr)
  rfl
end Go.Proofs.YtophoepbedlhjaaGreatDoor
-- NEWM
namespace Go.Proofs.YtophoepbedlhjaaGreatDoor
open Go Go.RowKit
set_option maxRecDepth 100000
def opnL (Fs:List Fac3):List Sid2:=(Fs.flatMap sds).filter fun s=>!(Fs.flatMap sds).contains ⟨s.t,s.f⟩
set_option maxHeartbeats 2000000 in
theorem openof_v (v w:Value) (V:List Vec3) (Fs:List Fac3) (hFl:Fs.length≤1000):ACalls Tryz.prog 45 [mshA v w V Fs] [] fun u H=>∃(q:Value) (l:List Sid2),l.Perm (opnL Fs)∧u = .c (.r q (sR l))∧H = []:=by
 have e2:(fR Fs).length=Fs.length:=by simp
 have e2':(Fs.map Fac3.row).length=Fs.length:=by simp
 refine zb (N:=43) Tryz.func45 rfl rfl (by simp) fun E hE=>?_
 refine WA ?_
 refine WA ?_
 refine WA ?_
 refine zm (fun m F H=>∃(k c:Nat) (L:List Sid2),m+k=Fs.length∧L.length=3*k∧L=(Fs.take k).flatMap sds∧F = [(1,.p 0 0 0),(3,.o 1 0 L.length c),(4,.c (.r (.slice none 0 0) [])),(10,.c (.r w (fR Fs))),(11,.c (I (fR Fs).length)),(12,.c (I k))]∧H = [mBox v w V (fR Fs),.arr 189 2 c (sR L)]) ?_ ?_
 ·refine wkg [some 0,none] (fun _=>[(1,.p 0 0 0),(3,.o 1 0 0 0),(4,.c (.r (.slice none 0 0) [])),(10,.c (.r w (fR Fs))),(11,.c (I (fR Fs).length)),(12,.c (I (0:Nat)))]) (fun _=>[mBox v w V (fR Fs),.arr 189 2 0 []]) (fun _=>?_)
  exact⟨Fs.length,0,0,[],by omega,rfl,rfl,rfl,rfl⟩
 ·rintro m F H ⟨k,c,L,hk,hL,hLe,rfl,rfl⟩
  refine WA ?_
  refine zl rfl (fun hlt=>?_) (fun hge=>?_)
  ·obtain⟨f,hz⟩:∃z,Fs[k]?=some z:=⟨_,List.getElem?_eq_getElem (by omega)⟩
   obtain⟨fa,fb,fc⟩:=f
   have hrow:(fR Fs)[k]?=some [I fa,I fb,I fc]:=by rw[List.getElem?_map,hz];rfl
   have e5:(sR (sds ⟨fa,fb,fc⟩)).length=3:=rfl
   have e6:(sds ⟨fa,fb,fc⟩).length=3:=rfl
   have hzn:=zK7 hz
   rw[←hLe] at hzn
   refine WA ?_
   refine WR ?_
   refine zf rfl (efk (c:=fun _=>zN8 ⟨fa,fb,fc⟩)) ?_
   rintro _ _ ⟨_,_,_,⟨⟨q,rfl⟩,rfl⟩,hF,hH⟩
   (refine NST hF hH ?_;clear hF hH;rintro rfl rfl)
   refine zf rfl (Zapp (KA (t:=86) rfl)) ?_
   rintro _ _ ⟨_,cc,hcc,rfl,rfl⟩
   refine WE ?_
   refine WA ?_
   refine zf1 [some 0,some 1] (fun _=>[(1,.p 0 0 0),(3,.o 1 0 (L++sds ⟨fa,fb,fc⟩).length cc),(4,.c (.r (.slice none 0 0) [])),(10,.c (.r w (fR Fs))),(11,.c (I (fR Fs).length)),(12,.c (I (k+1:Nat)))]) (fun _=>_) (by decide) (ZNL hE) ZCF ZCH (fun _=>?_)
   exact⟨m - 1,by omega,k+1,cc,L++sds ⟨fa,fb,fc⟩,by omega,by simp[sds];omega,hzn.symm,rfl,by simp[sR]⟩
  obtain rfl:k=Fs.length:=by omega
  rw[List.take_of_length_le (Nat.le_refl _)] at hLe
  have hop:opnL Fs=L.filter fun s=>!L.contains ⟨s.t,s.f⟩:=by rw[opnL,hLe]
  refine WA ?_
  refine zm (fun m F H=>∃(j c2:Nat) (O:List Sid2),m+j=L.length∧O.length≤j∧O=((L.take j).filter fun s=>!L.contains ⟨s.t,s.f⟩)∧F = [(3,.o 0 0 L.length c),(4,.o 1 0 O.length c2),(21,.o 0 0 L.length c),(22,.c (I L.length)),(23,.c (I j))]∧H = [.arr 189 2 c (sR L),.arr 189 2 c2 (sR O)]) ?_ ?_
  ·refine wkg [some 1,none] (fun _=>[(3,.o 0 0 L.length c),(4,.o 1 0 0 0),(21,.o 0 0 L.length c),(22,.c (I L.length)),(23,.c (I (0:Nat)))]) (fun _=>[.arr 189 2 c (sR L),.arr 189 2 0 []]) (fun _=>?_)
   exact⟨L.length,0,0,[],by omega,by simp,by simp,rfl,rfl⟩
  rintro m F H ⟨j,c2,O,hj,hO,hOe,rfl,rfl⟩
  have eL:(sR L).length=L.length:=by simp
  refine WA ?_
  refine zl rfl (fun hlt2=>?_) (fun hge2=>?_)
  ·obtain⟨s,hs⟩:∃z,L[j]?=some z:=⟨_,List.getElem?_eq_getElem (by omega)⟩
   obtain⟨sf,st⟩:=s
   have hrow:(sR L)[j]?=some [I sf,I st]:=by rw[List.getElem?_map,hs];rfl
   have hrow0:(sR L)[0+j]?=some [I sf,I st]:=by rw[Nat.zero_add];exact hrow
   refine WA ?_
   refine WR ?_
   refine zf rfl (zn true (fun g=>hasS_v ⟨st,sf⟩ L (g (.o 0 0 L.length c)) (by omega)) rfl .fn rfl (by decide) (by kernel_rfl) rfl (fun _=>.cons (.frz rfl rfl (by rw[List.drop_zero,List.take_of_length_le (by simp)]) (by simp) rfl) (.cons (.aL (C0 rfl)) .nil)) (fun _ _ _ _ ⟨hu,hH⟩=>by rw[hu,hH];exact⟨.c (.inl trivial),by simp⟩)) ?_
   rintro _ _ ⟨_,_,_,⟨rfl,rfl⟩,hF,hH⟩
   (refine NST hF hH ?_;clear hF hH;rintro rfl rfl)
   refine WE ?_
   refine zh rfl (fun hb=>?_) (fun hb=>?_)
   ·have hOn:(O++[(⟨sf,st⟩:Sid2)])=((L.take (j+1)).filter fun s=>!L.contains ⟨s.t,s.f⟩):=by
     rw[List.take_add_one,hs,List.filter_append,←hOe]
     simp only[Bool.not_eq_true'] at hb
     simp only[Option.toList_some,List.filter_cons,List.filter_nil,hb,Bool.not_false,if_true]
    refine WR ?_
    refine zf rfl (Zapp (KA (t:=86) rfl)) ?_
    rintro _ _ ⟨_,cc,hcc,rfl,rfl⟩
    refine WE ?_
    refine WA ?_
    refine zf1 [some 0,some 1] (fun _=>[(3,.o 0 0 L.length c),(4,.o 1 0 (O++[(⟨sf,st⟩:Sid2)]).length cc),(21,.o 0 0 L.length c),(22,.c (I L.length)),(23,.c (I (j+1:Nat)))]) (fun _=>_) (by decide) (ZNL hE) ZCF ZCH (fun _=>?_)
    exact⟨m - 1,by omega,j+1,cc,O++[⟨sf,st⟩],by omega,by simp;omega,hOn,rfl,by simp[sR]⟩
   ·have hOn:O=((L.take (j+1)).filter fun s=>!L.contains ⟨s.t,s.f⟩):=by
     rw[List.take_add_one,hs,List.filter_append,←hOe]
     simp only[Bool.not_eq_true',Bool.not_eq_false'] at hb
     simp only[Option.toList_some,List.filter_cons,List.filter_nil,hb,Bool.not_true,Bool.false_eq_true,if_false,List.append_nil]
    refine WA ?_
    refine zf1 [some 0,some 1] (fun _=>[(3,.o 0 0 L.length c),(4,.o 1 0 O.length c2),(21,.o 0 0 L.length c),(22,.c (I L.length)),(23,.c (I (j+1:Nat)))]) (fun _=>_) (by decide) (ZNL hE) ZCF ZCH (fun _=>?_)
    exact⟨m - 1,by omega,j+1,c2,O,by omega,by omega,hOn,rfl,rfl⟩
  rw[List.take_of_length_le (by omega)] at hOe
  refine WR ?_
  refine zf rfl (zX1 [1] (fun _=>[.arr 189 2 c2 (sR O)]) false (fun _=>sortS_v O c2 (by omega)) rfl .fn rfl (by decide) (by kernel_rfl) rfl ZCH (by decide) (fun _=>.arr rfl rfl .nil) (by simp)) ?_
  rintro F1 H1 ⟨_,_,_,_,⟨l',hp,rfl,rfl⟩,hF,hH⟩
  rw[zS] at hF;(refine NSU hF hH ?_;clear hF hH;rintro rfl rfl)
  refine WE ?_
  have hpl:=hp.length_eq
  refine WA ?_
  exact zt8 [] _ rfl rfl rfl rfl (by rw[List.drop_zero,List.take_of_length_le (by simp;omega)]) (by simp;omega) rfl (by decide) (ZNK rfl) (fun _=>.nil) (fun q=>⟨q,l',by rw[hop,←hOe];exact hp,rfl,rfl⟩)
end Go.Proofs.YtophoepbedlhjaaGreatDoor
-- NEWM
namespace Go.Proofs.YtophoepbedlhjaaGreatDoor
open Go Go.RowKit
set_option maxRecDepth 100000
set_option maxHeartbeats 8000000 in
theorem zy7 (v:Value) (zs:List Int) (a:Int) (hs:StrOk zs) (h0:0≤a) (h1:a≤500000000) :
    ACalls Tryz.prog 6 [.p 0 0 0] [strm v zs a] fun u H=>∃(a':Int) (q w:Value) (V:List Vec3) (Fs:List Fac3),u=mshA q w V Fs∧H = [strm v zs a']∧a≤a'∧a'≤a+12800∧V.length≤16∧Fs.length≤25∧mshF V Fs=0∧opnL Fs = []:=by
 refine zb (N:=16) Tryz.func6 rfl rfl (by simp) fun E hE=>?_
 refine WA ?_
 refine WA ?_
 refine zm (fun m F H=>∃(k:Nat) (a1:Int),m+k=8∧a≤a1∧a1≤a+1600*k∧F = [(0,.p 0 0 0),(2,.p 1 0 0),(4,.c (I k))]∧H = [strm v zs a1,.box [.c (.r (.slice none 0 0) []),.c (.r (.slice none 0 0) [])]]) ?_ ?_
 ·refine wkg [some 0,some 1] (fun _=>[(0,.p 0 0 0),(2,.p 1 0 0),(4,.c (I (0:Nat)))]) (fun _=>[strm v zs a,.box [.c (.r (.slice none 0 0) []),.c (.r (.slice none 0 0) [])]]) (fun _=>?_)
  exact⟨8,0,a,by omega,by omega,by omega,rfl,rfl⟩
 rintro m F H ⟨k,a1,hk,ha1,ha2,rfl,rfl⟩
 refine WA ?_
 refine zl rfl (fun hlt=>?_) (fun hge=>?_)
 ·refine WR ?_
  refine zf rfl (efm (c:=fun _=>zM7 _ _ _ hs (by omega) (by omega)) (v:=fun _g=>.cons (.p rfl) .nil)) ?_
  rintro F1 H1 ⟨_,_,_,_,⟨a2,q,w,V,Fs,rfl,hq,ha3,ha4,hV,hFl,hmf⟩,hF,hH⟩
  cases hq
  (refine NST hF hH ?_;clear hF hH;rintro rfl rfl)
  refine WE ?_
  refine WR ?_
  refine zf rfl (efk (c:=fun _=>openof_v q w V Fs (by omega))) ?_
  rintro _ _ ⟨_,_,_,⟨qo,lo,hlo,rfl,rfl⟩,hF,hH⟩
  (refine NST hF hH ?_;clear hF hH;rintro rfl rfl)
  refine WE ?_
  refine zl rfl (fun hok=>?_) (fun hok=>?_)
  ·have hop:opnL Fs = []:=by
    have h3:lo.length=0:=by simp at hok;simp[hok]
    rw[List.eq_nil_of_length_eq_zero h3] at hlo
    exact hlo.symm.eq_nil
   refine WA ?_
   exact zn1 [some 0] [strm v zs a2] rfl (KK (t:=29) rfl) rfl (Cells.box rfl) (by simp) (by(try simp only[nm,putL,Nat.reduceAdd,cellsOf,cvOf]) <;> rfl) (by decide) (ZNK rfl) (fun _=>C0 rfl) ZCH ⟨_,q,w,V,Fs,rfl,rfl,by omega,by omega,hV,hFl,hmf,hop⟩
  ·refine WA ?_
   refine wkg [some 0,some 1] (fun _=>[(0,.p 0 0 0),(2,.p 1 0 0),(4,.c (I (k+1:Nat)))]) (fun _=>[strm v zs a2,.box [.c (.r (.slice none 0 0) []),.c (.r (.slice none 0 0) [])]]) (fun _=>?_)
   exact⟨m - 1,by omega,k+1,a2,by omega,by omega,by omega,rfl,rfl⟩
 refine WR ?_
 refine zf rfl (zP1 [] (fun _=>[]) false (fun _=>zE7 ⟨0,0,0⟩ 6 (by decide) (by decide)) rfl .fn rfl (by decide) (by kernel_rfl) rfl (fun _=>C0 rfl) (by decide) (fun _=>.nil) (by simp)) ?_
 rintro F1 H1 ⟨_,_,_,_,⟨rfl,rfl⟩,hF,hH⟩
 (refine NSU hF hH ?_;clear hF hH;rintro rfl rfl)
 refine WE ?_
 exact zI (us:=[.a [.o 2 0 (tetV ⟨0,0,0⟩ 6).length 4,.o 3 0 (tetF).length 4]]) [some 0] (fun g=>.a [.c (.r (g (.o 2 0 (tetV ⟨0,0,0⟩ 6).length 4)) (vR (tetV ⟨0,0,0⟩ 6))),.c (.r (g (.o 3 0 (tetF).length 4)) (fR (tetF)))]) (fun _=>[strm v zs a1]) (.cella rfl (KK (t:=29) rfl) (Cells.box rfl) (by simp) (by(try simp only[nm,putL,Nat.reduceAdd,cellsOf,cvOf]) <;> rfl) .nil) (by decide) (ZNK rfl) (fun _=>.aL (.cons (.frz rfl rfl (by rw[List.drop_zero,List.take_of_length_le (by simp)]) (by simp) rfl) (.cons (.frz rfl rfl (by rw[List.drop_zero,List.take_of_length_le (by simp)]) (by simp) rfl) .nil))) ZCH (fun _=>⟨_,_,_,tetV ⟨0,0,0⟩ 6,tetF,rfl,rfl,by omega,by omega,by decide,by decide,by decide,by decide⟩)
end Go.Proofs.YtophoepbedlhjaaGreatDoor
namespace Go.Proofs.YtophoepbedlhjaaGreatDoor
open Go Go.RowKit
set_option maxRecDepth 100000
inductive XT (α:Type) where
 | nil
 | node (l:XT α) (v:Option α) (r:XT α)
def XT.get {α:Type}:XT α→Nat→Option α
 | .nil,_=>none
 | .node l v r,k=>match k with
  | 0=>v
  | k+1=>match Nat.mod k 2 with
   | 0=>l.get (Nat.div k 2)
   | _+1=>r.get (Nat.div k 2)
def XT.set {α:Type}:Nat→XT α→Nat→α→XT α
 | 0,t,_,_=>t
 | n+1,.nil,k,x=>(match k with
  | 0=>.node .nil (some x) .nil
  | k+1=>match Nat.mod k 2 with
   | 0=>.node (XT.set n .nil (Nat.div k 2) x) none .nil
   | _+1=>.node .nil none (XT.set n .nil (Nat.div k 2) x))
 | n+1,.node l v r,k,x=>(match k with
  | 0=>.node l (some x) r
  | k+1=>match Nat.mod k 2 with
   | 0=>.node (XT.set n l (Nat.div k 2) x) v r
   | _+1=>.node l v (XT.set n r (Nat.div k 2) x))
theorem XT.get_set {α:Type}:∀(n:Nat) (t:XT α) (k:Nat) (x:α) (j:Nat),k+1 < 2 ^ n→(XT.set n t k x).get j=if j=k then some x else t.get j
 | 0,t,k,x,j,h=>by omega
 | n+1,t,k,x,j,h=>by
  have key:∀(l r:XT α) (v:Option α),(XT.set (n+1) (.node l v r) k x).get j=if j=k then some x else (XT.node l v r).get j:=fun l r v=>by
   cases k with
   | zero=>
    cases j with
    | zero=>rfl
    | succ j=>simp[XT.set,XT.get]
   | succ k=>
    have hk:Nat.div k 2+1 < 2 ^ n:=by
     have:(2:Nat) ^ (n+1)=2*2 ^ n:=by rw[Nat.pow_succ,Nat.mul_comm]
     have h2:Nat.div k 2=k / 2:=rfl
     omega
    have hm:Nat.mod k 2=k % 2:=rfl
    cases j with
    | zero=>
     have h0:¬(0=k+1):=by omega
     unfold XT.set
     simp only
     split <;> simp[XT.get]
    | succ j=>
     have hd:∀a:Nat,Nat.div a 2=a / 2:=fun _=>rfl
     have hmj:∀a:Nat,Nat.mod a 2=a % 2:=fun _=>rfl
     rcases Nat.mod_two_eq_zero_or_one k with h1|h1 <;> rcases Nat.mod_two_eq_zero_or_one j with h2|h2
     ·have ih:=XT.get_set n l (Nat.div k 2) x (Nat.div j 2) hk
      have e1:XT.set (n+1) (.node l v r) (k+1) x = .node (XT.set n l (Nat.div k 2) x) v r:=by rw[XT.set];simp only[hmj,h1]
      rw[e1,XT.get,XT.get]
      simp only[hmj,h2]
      rw[ih]
      simp only[hd]
      by_cases he:j=k
      ·subst he;simp
      ·rw[if_neg (by omega),if_neg (by omega)]
     ·have e1:XT.set (n+1) (.node l v r) (k+1) x = .node (XT.set n l (Nat.div k 2) x) v r:=by rw[XT.set];simp only[hmj,h1]
      rw[e1,XT.get,XT.get]
      simp only[hmj,h2]
      rw[if_neg (by omega)]
     ·have e1:XT.set (n+1) (.node l v r) (k+1) x = .node l v (XT.set n r (Nat.div k 2) x):=by rw[XT.set];simp only[hmj,h1]
      rw[e1,XT.get,XT.get]
      simp only[hmj,h2]
      rw[if_neg (by omega)]
     ·have ih:=XT.get_set n r (Nat.div k 2) x (Nat.div j 2) hk
      have e1:XT.set (n+1) (.node l v r) (k+1) x = .node l v (XT.set n r (Nat.div k 2) x):=by rw[XT.set];simp only[hmj,h1]
      rw[e1,XT.get,XT.get]
      simp only[hmj,h2]
      rw[ih]
      simp only[hd]
      by_cases he:j=k
      ·subst he;simp
      ·rw[if_neg (by omega),if_neg (by omega)]
  cases t with
  | node l v r=>exact key l r v
  | nil=>
   have e:XT.set (n+1) (.nil:XT α) k x=XT.set (n+1) (.node .nil none .nil) k x:=by
    unfold XT.set
    cases k with
    | zero=>rfl
    | succ k=>rfl
   rw[e,key .nil .nil none]
   split
   ·rfl
   ·cases j with
    | zero=>rfl
    | succ j=>simp only[XT.get];split <;> rfl
def xdepth:Nat:=20
def xcap:Nat:=1048575
inductive XV where
 | v (x:Value)
 | p (b j:Nat)
 | sl (b k n c:Nat)
 | sg (b k n e:Nat)
 | se (b k q e:Nat)
 | m (b:Nat)
 | a (l:List XV)
 | t (l:List XV)
 | f (fn:FuncId) (caps:List XV)
 | yl (b:Nat)
inductive XB where
 | cells (e:TypeId) (cs:List XV)
 | grown (e:TypeId) (sz:Nat) (cs:List XV)
 | map (es:List (Value × XV)) (bs:List Nat) (ck:Nat)
 | iter (m since:Nat) (seen:List Nat) (last:Nat)
 | dead
mutual
def XV.den (ρ γ:Nat→Nat):XV→Value
 | .v x=>x
 | .p b j=>.pointer (some ⟨ρ b,j,none⟩)
 | .sl b k n c=>.slice (some ⟨ρ b,k,none⟩) n c
 | .sg b k n e=>.slice (some ⟨ρ b,k,none⟩) n (γ b - e)
 | .se b k q e=>.slice (some ⟨ρ b,if γ b=e then k else q,none⟩) 0 (γ b - e)
 | .m b=>.map (some (ρ b))
 | .a l=>.agg (XV.denL ρ γ l).toArray
 | .t l=>.tuple (XV.denL ρ γ l).toArray
 | .f fn caps=>.func (.func fn) #[] (XV.denL ρ γ caps).toArray
 | .yl b=>.func (.yield (ρ b)) #[] #[]
def XV.denL (ρ γ:Nat→Nat):List XV→List Value
 | []=>[]
 | x :: l=>x.den ρ γ :: XV.denL ρ γ l
end
theorem XV.denL_eq (ρ γ:Nat→Nat):∀l,XV.denL ρ γ l=l.map (XV.den ρ γ)
 | []=>rfl
 | x :: l=>by rw[XV.denL,XV.denL_eq ρ γ l];rfl
mutual
/-- All blocks that are named are there, with room enough. -/
def XV.ok (A:Nat→Nat→Prop):XV→Prop
 | .v _=>True
 | .p b _=>A b 0
 | .sl b _ _ _=>A b 0
 | .sg b _ n e=>A b (n+e)
 | .se b _ _ e=>A b e
 | .m b=>A b 0
 | .a l=>XV.okL A l
 | .t l=>XV.okL A l
 | .f _ l=>XV.okL A l
 | .yl b=>A b 0
def XV.okL (A:Nat→Nat→Prop):List XV→Prop
 | []=>True
 | x :: l=>x.ok A∧XV.okL A l
end
theorem XV.okL_iff {A:Nat→Nat→Prop}:∀{l:List XV},XV.okL A l↔∀x∈l,x.ok A
 | []=>by simp[XV.okL]
 | x :: l=>by simp[XV.okL,XV.okL_iff (l:=l)]
theorem XV.induct {Pr:XV→Prop} (hv:∀x,Pr (.v x)) (hp:∀b j,Pr (.p b j)) (hs:∀b k n c,Pr (.sl b k n c)) (hg:∀b k n e,Pr (.sg b k n e)) (he:∀b k q e,Pr (.se b k q e)) (hm:∀b,Pr (.m b)) (ha:∀l,(∀x∈l,Pr x)→Pr (.a l)) (ht:∀l,(∀x∈l,Pr x)→Pr (.t l)) (hf:∀fn l,(∀x∈l,Pr x)→Pr (.f fn l)) (hy:∀b,Pr (.yl b)):∀x,Pr x:=by
 intro x
 refine XV.rec (motive_1:=Pr) (motive_2:=fun l=>∀x∈l,Pr x) hv hp hs hg he hm (fun l h=>ha l h) (fun l h=>ht l h) (fun fn l h=>hf fn l h) hy (fun x h=>by cases h) (fun x l h1 h2 y hy=>?_) x
 rcases List.mem_cons.1 hy with rfl|hy
 ·exact h1
 ·exact h2 y hy
theorem XV.den_same {ρ γ ρ' γ':Nat→Nat} {A:Nat→Nat→Prop} (h:∀b m,A b m→ρ' b=ρ b∧γ' b=γ b) (x:XV):x.ok A→x.den ρ' γ'=x.den ρ γ:=by
 refine XV.induct (Pr:=fun x=>x.ok A→x.den ρ' γ'=x.den ρ γ) ?_ ?_ ?_ ?_ ?_ ?_ ?_ ?_ ?_ ?_ x
 ·intro x _;rfl
 ·intro b j hb;simp only[XV.den,(h _ _ hb).1]
 ·intro b k m c hb;simp only[XV.den,(h _ _ hb).1]
 ·intro b k m e hb;simp only[XV.den,(h _ _ hb).1,(h _ _ hb).2]
 ·intro b k q e hb;simp only[XV.den,(h _ _ hb).1,(h _ _ hb).2]
 ·intro b hb;simp only[XV.den,(h _ _ hb).1]
 ·intro l ih hl;rw[XV.ok,XV.okL_iff] at hl;simp only[XV.den,XV.denL_eq];rw[List.map_congr_left fun x hx=>ih x hx (hl x hx)]
 ·intro l ih hl;rw[XV.ok,XV.okL_iff] at hl;simp only[XV.den,XV.denL_eq];rw[List.map_congr_left fun x hx=>ih x hx (hl x hx)]
 ·intro fn l ih hl;rw[XV.ok,XV.okL_iff] at hl;simp only[XV.den,XV.denL_eq];rw[List.map_congr_left fun x hx=>ih x hx (hl x hx)]
 ·intro b hb;simp only[XV.den,(h _ _ hb).1]
theorem XV.ok_mono {A B:Nat→Nat→Prop} (h:∀b m,A b m→B b m) (x:XV):x.ok A→x.ok B:=by
 refine XV.induct (Pr:=fun x=>x.ok A→x.ok B) ?_ ?_ ?_ ?_ ?_ ?_ ?_ ?_ ?_ ?_ x
 ·intro x _;trivial
 ·intro b j hb;exact h _ _ hb
 ·intro b k m c hb;exact h _ _ hb
 ·intro b k m e hb;exact h _ _ hb
 ·intro b k q e hb;exact h _ _ hb
 ·intro b hb;exact h _ _ hb
 ·intro l ih hl;rw[XV.ok,XV.okL_iff] at hl ⊢;exact fun x hx=>ih x hx (hl x hx)
 ·intro l ih hl;rw[XV.ok,XV.okL_iff] at hl ⊢;exact fun x hx=>ih x hx (hl x hx)
 ·intro fn l ih hl;rw[XV.ok,XV.okL_iff] at hl ⊢;exact fun x hx=>ih x hx (hl x hx)
 ·intro b hb;exact h _ _ hb
def XOwn (w:World) (ρ γ:Nat→Nat) (B g:Nat):XB→Prop
 | .cells e cs=>w.heap[B]?=some (.cells (cs.map (XV.den ρ γ)).toArray e (0,0))∧∀x∈cs,(x.den ρ γ).oneCell'=true
 | .grown e sz cs=>∃arr,w.heap[B]?=some (.cells arr e (0,0))∧arr.size=g*sz∧g≤maxLen∧cs.length≤arr.size∧∀(i:Nat) (x:XV),cs[i]?=some x→arr[i]?=some (x.den ρ γ)∧(x.den ρ γ).oneCell'=true
 | .map es bs ck=>∃ms,w.heap[B]?=some (.map ms ck)∧ms.toList.map (fun m=>(m.key,m.val))=es.map (fun p=>(p.1,p.2.den ρ γ))∧ms.toList.map (·.born)=bs
 | .iter m since seen last=>w.heap[B]?=some (.mapIter (some (ρ m)) since seen.toArray last)
 | .dead=>True
def XB.ok (A:Nat→Nat→Prop):XB→Prop
 | .cells _ cs=>XV.okL A cs
 | .grown _ _ cs=>XV.okL A cs
 | .map es _ _=>∀p∈es,p.2.ok A
 | .iter m _ _ _=>A m 0
 | .dead=>True
def XB.live:XB→Bool
 | .dead=>false
 | _=>true
abbrev XHp:=XT XB
abbrev XFr:=XT XV
def XT.has {α:Type} (t:XT α) (γ:Nat→Nat) (b m:Nat):Prop:=(t.get b).isSome=true∧m≤γ b
structure XEnv where
 w:World
 X:Nat→Option Obj
 own:List Nat
structure XBs (E:XEnv) (w':World):Prop extends Stp E.w w' (fun _=>False) where
 fx:∀B ob,E.X B=some ob→w'.heap[B]?=some ob
theorem XBs.lt {E:XEnv} {w':World} (h:XBs E w') {B:Nat} {ob:Obj} (hB:E.X B=some ob):B < w'.heap.size:=(Array.getElem?_eq_some_iff.1 (h.fx B ob hB)).1
theorem XBs.new {E:XEnv} {w':World} (h:XBs E w'):E.X w'.heap.size=none:=by
 cases hX:E.X w'.heap.size with
 | none=>rfl
 | some ob=>exact absurd (h.lt hX) (Nat.lt_irrefl _)
theorem XBs.alloc {E:XEnv} {w':World} (h:XBs E w') (o:Obj):XBs E (w'.alloc o):=⟨h.toStp.alloc o,fun B ob hB=>(Below.heap_alloc w' o B (h.lt hB)).trans (h.fx B ob hB)⟩
theorem XBs.drew {E:XEnv} {w':World} (h:XBs E w'):XBs E w'.drew:=⟨h.toStp.drew,h.fx⟩
structure XH (w0:XEnv) (ρ γ:Nat→Nat) (H:XHp) (w:World):Prop where
 nd:∀i j o o',H.get i=some o→H.get j=some o'→o.live=true→o'.live=true→ρ i=ρ j→i=j
 hi:∀i o,H.get i=some o→o.live=true→w0.w.heap.size≤ρ i∧ρ i < w.heap.size
 ap:∀i o,H.get i=some o→o.live=true→w0.X (ρ i)=none
 bl:∀i o,H.get i=some o→o.ok (H.has γ)∧XOwn w ρ γ (ρ i) (γ i) o
 st:XBs w0 w
structure XR (N:Nat) (w0:XEnv) (ρ γ:Nat→Nat) (F:XFr) (H:XHp) (a:Act) (w:World):Prop where
 df:a.defers=w0.own.map (fun D=>⟨.collected D,#[]⟩)∧w0.own.Nodup∧∀D∈w0.own,w0.X D=some (.deferred (some []))∧w0.w.heap.size≤D
 sz:N≤a.tmps.size
 fr:∀i x,F.get i=some x→a.tmps[i]?=some (x.den ρ γ)∧x.ok (H.has γ)
 hp:XH w0 ρ γ H w
def xev (F:XFr):Operand→Option XV
 | .tmp t=>F.get t
 | .const v=>some (.v v)
 | .func f=>some (.f f [])
 | .global _=>none
section
variable {N:Nat} {w0:XEnv} {ρ γ:Nat→Nat} {F:XFr} {H:XHp} {a:Act} {w:World}
theorem XR.ev {x:Operand} {v:XV} (h:XR N w0 ρ γ F H a w) (hx:xev F x=some v):a.eval x=v.den ρ γ∧v.ok (H.has γ):=by
 cases x with
 | tmp t=>
  obtain⟨h1,h2⟩:=h.fr t v hx
  exact⟨by rw[Act.eval,Array.getD_eq_getD_getElem?,h1];rfl,h2⟩
 | const c=>
  simp only[xev,Option.some.injEq] at hx
  subst hx
  exact⟨rfl,trivial⟩
 | func f=>
  simp only[xev,Option.some.injEq] at hx
  subst hx
  exact⟨rfl,trivial⟩
 | global g=>cases hx
def xput (N:Nat) (F:XFr) (d:Nat) (x:XV):Option XFr:=bif Nat.blt d N && Nat.blt d xcap then some (XT.set xdepth F d x) else none
theorem zR1 {F':XFr} {d:Nat} {x:XV} (h:xput N F d x=some F'):d < N∧∀i,F'.get i=if i=d then some x else F.get i:=by
 unfold xput at h
 cases hc:(Nat.blt d N && Nat.blt d xcap) with
 | false=>rw[hc] at h;cases h
 | true=>
  rw[hc] at h
  injection h with h
  subst h
  simp only[Bool.and_eq_true,Nat.blt_eq] at hc
  exact⟨hc.1,fun i=>XT.get_set xdepth F d x i (by have:=hc.2;simp only[xcap,xdepth] at *;omega)⟩
theorem XR.put {F':XFr} {d:Nat} {x:XV} (h:XR N w0 ρ γ F H a w) (hp:xput N F d x=some F') (hx:x.ok (H.has γ)):XR N w0 ρ γ F' H (a.put (some d) (x.den ρ γ)) w:=by
 obtain⟨hd,hg⟩:=zR1 hp
 refine⟨h.df,by simpa [Act.put] using h.sz,fun i y hy=>?_,h.hp⟩
 rw[hg] at hy
 by_cases hi:i=d
 ·subst hi
  rw[if_pos rfl] at hy
  injection hy with hy
  subst hy
  have:=h.sz
  exact⟨by simp[Act.put,Array.getElem?_setIfInBounds];omega,hx⟩
 ·rw[if_neg hi] at hy
  obtain⟨h1,h2⟩:=h.fr i y hy
  exact⟨by simp only[Act.put];rw[Array.getElem?_setIfInBounds_ne (Ne.symm hi)];exact h1,h2⟩
end
end Go.Proofs.YtophoepbedlhjaaGreatDoor
namespace Go.Proofs.YtophoepbedlhjaaGreatDoor
open Go Go.RowKit
set_option maxRecDepth 100000
def semPure {α:Type} (P:Program):Sem α→Option α
 | .pure a=>some a
 | .program k=>semPure P (k P)
 | .mark _ k=>semPure P k
 | .choose q k=>bif q.forced then semPure P (k 0) else none
 | _=>none
theorem zG {α:Type} {P:Program} (w:World):∀{s:Sem α} {a:α},semPure P s=some a→s.run P w = .ok a w:=by
 intro s
 induction s with
 | pure a=>intro b h;injection h with h;subst h;rfl
 | program k ih=>intro b h;exact ih P h
 | mark m k ih=>intro b h;exact ih h
 | choose q k ih=>
  intro b h
  unfold semPure at h
  cases hq:q.forced with
  | false=>rw[hq] at h;cases h
  | true=>
   rw[hq] at h
   simp only[Sem.run,hq,if_true]
   exact ih 0 h
 | _=>intro b h;cases h
def xnorm:Value→XV
 | .agg cs=>.a (cs.toList.map .v)
 | .tuple cs=>.t (cs.toList.map .v)
 | v=>.v v
theorem zA1 (ρ γ:Nat→Nat) (v:Value):(xnorm v).den ρ γ=v:=by
 unfold xnorm
 split
 ·simp[XV.den,XV.denL_eq,Function.comp_def]
 ·simp[XV.den,XV.denL_eq,Function.comp_def]
 ·rfl
theorem zn2 (A:Nat→Nat→Prop) (v:Value):(xnorm v).ok A:=by
 unfold xnorm
 split
 ·rw[XV.ok,XV.okL_iff];intro x hx;obtain⟨u,_,rfl⟩:=List.mem_map.1 hx;trivial
 ·rw[XV.ok,XV.okL_iff];intro x hx;obtain⟨u,_,rfl⟩:=List.mem_map.1 hx;trivial
 ·trivial
def xplL:List XV→Option (List Value)
 | []=>some []
 | .v u :: l=>(match xplL l with
  | some us=>some (u :: us)
  | none=>none)
 | _ :: _=>none
theorem zW5 (ρ γ:Nat→Nat):∀{l:List XV} {us:List Value},xplL l=some us→XV.denL ρ γ l=us
 | [],us,h=>by cases h;rfl
 | .v u :: l,us,h=>by
  unfold xplL at h
  split at h
  ·rename_i vs hv;injection h with h;subst h;rw[XV.denL,zW5 ρ γ hv,XV.den]
  ·cases h
 | .p .. :: _,_,h=>by cases h
 | .sl .. :: _,_,h=>by cases h
 | .sg .. :: _,_,h=>by cases h
 | .se .. :: _,_,h=>by cases h
 | .m .. :: _,_,h=>by cases h
 | .a .. :: _,_,h=>by cases h
 | .t .. :: _,_,h=>by cases h
 | .f .. :: _,_,h=>by cases h
 | .yl .. :: _,_,h=>by cases h
def xpl:XV→Option Value
 | .v u=>some u
 | .a l=>(match xplL l with
  | some us=>some (.agg us.toArray)
  | none=>none)
 | _=>none
theorem xpl_den (ρ γ:Nat→Nat) {x:XV} {u:Value} (h:xpl x=some u):x.den ρ γ=u:=by
 unfold xpl at h
 split at h
 ·cases h;rfl
 ·split at h
  ·rename_i us hu;injection h with h;subst h;simp only[XV.den,zW5 ρ γ hu]
  ·cases h
 ·cases h
def xevn (F:XFr) (x:Operand):Option XV:=match x with
 | .const v=>some (xnorm v)
 | x=>xev F x
def xevp (F:XFr) (x:Operand):Option Value:=match x with
 | .const v=>some v
 | x=>match xev F x with
  | some y=>xpl y
  | none=>none
def xcell (H:XHp) (b j:Nat):Option XV:=match H.get b with
 | some (.cells _ cs)=>cs[j]?
 | some (.grown _ _ cs)=>cs[j]?
 | _=>none
def xcellsN (H:XHp) (b j n:Nat):Option (List XV):=match H.get b with
 | some (.cells _ cs)=>let l:=(cs.drop j).take n;bif Nat.beq l.length n then some l else none
 | some (.grown _ _ cs)=>let l:=(cs.drop j).take n;bif Nat.beq l.length n then some l else none
 | _=>none
section
variable {P:Program} {N:Nat} {w0:XEnv} {ρ γ:Nat→Nat} {F:XFr} {H:XHp} {a:Act} {w:World} {o:Oper}
theorem XR.evn {x:Operand} {v:XV} (h:XR N w0 ρ γ F H a w) (hx:xevn F x=some v):a.eval x=v.den ρ γ∧v.ok (H.has γ):=by
 unfold xevn at hx
 split at hx
 ·injection hx with hx;subst hx;exact⟨(zA1 _ _ _).symm,zn2 _ _⟩
 ·exact h.ev hx
theorem XR.evp {x:Operand} {v:Value} (h:XR N w0 ρ γ F H a w) (hx:xevp F x=some v):a.eval x=v:=by
 unfold xevp at hx
 split at hx
 ·cases hx;rfl
 ·split at hx
  ·rename_i y hy;rw[(h.ev hy).1];exact xpl_den _ _ hx
  ·cases hx
theorem XH.cell (h:XH w0 ρ γ H w) {b j:Nat} {x:XV} (hx:xcell H b j=some x):w.cell? ⟨ρ b,j,none⟩=some (x.den ρ γ)∧x.ok (H.has γ)∧(x.den ρ γ).oneCell'=true:=by
 unfold xcell at hx
 split at hx
 ·rename_i e cs hb
  obtain⟨h1,h2,h3⟩:=h.bl b _ hb
  rw[XB.ok,XV.okL_iff] at h1
  refine⟨?_,h1 x (List.mem_of_getElem? hx),h3 x (List.mem_of_getElem? hx)⟩
  unfold World.cell?
  rw[h2];simp[List.getElem?_map,hx]
 ·rename_i e sz cs hb
  obtain⟨h1,arr,h2,h3,h4,h5,h6⟩:=h.bl b _ hb
  rw[XB.ok,XV.okL_iff] at h1
  obtain⟨h7,h8⟩:=h6 j x hx
  refine⟨?_,h1 x (List.mem_of_getElem? hx),h8⟩
  unfold World.cell?
  rw[h2]
  simp[h7]
 ·cases hx
theorem zx3 {b n j:Nat} {l:List XV} (h:xcellsN H b j n=some l):l.length=n∧∀i x,l[i]?=some x→xcell H b (j+i)=some x:=by
 have key:∀cs:List XV,(bif Nat.beq ((cs.drop j).take n).length n then some ((cs.drop j).take n) else none)=some l→l.length=n∧∀i x,l[i]?=some x→cs[j+i]?=some x:=fun cs hc=>by
  cases hq:Nat.beq ((cs.drop j).take n).length n with
  | false=>rw[hq] at hc;cases hc
  | true=>
   rw[hq] at hc
   injection hc with hc
   subst hc
   refine⟨Nat.eq_of_beq_eq_true hq,fun i x hi=>?_⟩
   rw[List.getElem?_take] at hi
   split at hi
   ·rw[List.getElem?_drop] at hi;exact hi
   ·cases hi
 unfold xcellsN at h
 unfold xcell
 split at h
 ·exact key _ h
 ·exact key _ h
 ·cases h
def xload (P:Program) (t:TypeId) (H:XHp) (b j:Nat):Option XV:=match ldk P t with
 | some none=>xcell H b j
 | some (some n)=>(match xcellsN H b j n with
  | some l=>some (.a l)
  | none=>none)
 | none=>none
theorem zz8 {t:TypeId} {b j:Nat} {x:XV} (h:XH w0 ρ γ H w) (hx:xload P t H b j=some x):(Instr.loadAt t (.pointer (some ⟨ρ b,j,none⟩))).run P w = .ok (x.den ρ γ) w∧x.ok (H.has γ):=by
 unfold xload at hx
 split at hx
 ·rename_i hk
  obtain⟨h1,h2,_⟩:=h.cell hx
  generalize ρ b=B at h1 ⊢
  exact⟨by simp[Instr.loadAt,Instr.sureAddr,loadVar,(zQ4 (w:=w) hk).1,h1],h2⟩
 ·rename_i n hk
  split at hx
  ·rename_i l hl
   injection hx with hx
   subst hx
   obtain⟨h1,h2⟩:=zx3 hl
   have hc:∀k,k < n→w.cell? ⟨ρ b,j+(0+k),none⟩=(l.map (XV.den ρ γ))[0+k]?:=fun k hk=>by
    have h3:l[k]?=some l[k]:=List.getElem?_eq_getElem (by omega)
    rw[Nat.zero_add,(h.cell (h2 k _ h3)).1,List.getElem?_map,h3];rfl
   have hl2:=zb1 (P:=P) (w:=w) (B:=ρ b) (off:=j) (vs:=l.map (XV.den ρ γ)) n 0 #[] hc (by simp[h1])
   refine⟨?_, ?_⟩
   ·simp only[Instr.loadAt,Instr.sureAddr,loadVar,loadCells,Sem.run_bind,Sem.run_pure,Result.andThen_ok,(zV1 (w:=w) hk).1,(zV1 (w:=w) hk).2,hl2,if_true,List.drop_zero,XV.den,XV.denL_eq]
    rw[List.take_of_length_le (by simp[h1])]
    simp
   ·rw[XV.ok,XV.okL_iff]
    intro x hx
    obtain⟨i,hi⟩:=List.getElem?_of_mem hx
    exact(h.cell (h2 i x hi)).2.1
  ·cases hx
 ·cases hx
end
end Go.Proofs.YtophoepbedlhjaaGreatDoor
