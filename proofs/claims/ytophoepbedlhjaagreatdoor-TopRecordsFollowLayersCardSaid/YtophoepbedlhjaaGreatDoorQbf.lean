/- strconv.Itoa, by value, where its table lies. -/
import Derived.Test.YtophoepbedlhjaaGreatDoorQbb
import Derived.Test.YtophoepbedlhjaaGreatDoorQbe
import Derived.Test.YtophoepbedlhjaaGreatDoorQaw
import Derived.Test.YtophoepbedlhjaaGreatDoorQau
import Derived.Test.YtophoepbedlhjaaGreatDoorQal
import Derived.Test.YtophoepbedlhjaaGreatDoorQat
import Derived.Shelf.Strconv.Itoa3
import Derived.Lib.LaidTab
import Derived.Test.YtophoepbedlhjaaGreatDoorProg
set_option linter.unusedSimpArgs false
set_option linter.unusedVariables false
-- NEWM
namespace Go.Proofs.YtophoepbedlhjaaGreatDoor
open Go Go.RowKit
set_option maxRecDepth 100000
theorem zE11 (l:List Nt) (ix:List Int):∀k,(bkK l ix k).2.1.length≤k∧(bkK l ix k).2.2.length≤k
 | 0=>by simp[bkK]
 | k+1=>by
  have h:=zE11 l ix k
  rw[bkK]
  split
  ·split
   ·unfold bkStep
    split <;> simp <;> omega
   ·omega
  ·omega
set_option maxHeartbeats 4000000 in
theorem zD11 (v:Value) (l:List Nt) (at_:Int) (hl:l.length≤2000) (hs:∀x∈l,ntF x=0) (hix:∀i∈cntP at_ l,∃k:Nat,i=k∧k < l.length):ACalls Tryz.prog 67 [.c (.r v (noRs l)),.c (I at_)] [] fun u H=>∃(b:Bk) (R1 R2:List Int) (bl:List Nat) (rl:List (Nat × List UInt8 × List UInt8)) (rk c1 c2:Nat),bksF l (cntP at_ l)=(b,R1,R2)∧BkOk b 2000∧bl.length=b.js.length∧RunOk b.js rl∧MapOk rl rk∧R1.length≤2000∧R2.length≤2000∧R1.length≤c1∧R2.length≤c2∧u = .p 0 0 0∧H = [.box [.mp 1,.mp 2,.mp 3,.mp 4,.mp 5,.o 6 0 (R1).length c1,.o 7 0 (R2).length c2],mSP (jlF 0 b.js bl) b.js.length,mSS rl rk,mSS b.sp b.spk,mSI b.lf b.lfk,mSI b.us b.usk,.arr 3 1 c1 (nR (R1)),.arr 31 1 c2 (nR (R2)),.pool (plF jbP b.js bl)]:=by
 have hcl:(cntP at_ l).length≤2000:=by
  have:=zu4 at_ l l.length (Nat.le_refl _)
  unfold cntP
  rw[List.length_reverse]
  omega
 refine zb (N:=60) Tryz.func67 rfl rfl (by simp) fun E hE=>?_
 refine WA ?_
 refine ZR ?_
 refine zf rfl (zW1 rfl rfl (by decide)) ?_
 rintro _ _ ⟨rfl,rfl⟩
 refine zf rfl (zW1 rfl rfl (by decide)) ?_
 rintro _ _ ⟨rfl,rfl⟩
 refine zf rfl (zW1 rfl rfl (by decide)) ?_
 rintro _ _ ⟨rfl,rfl⟩
 refine zf rfl (zW1 rfl rfl (by decide)) ?_
 rintro _ _ ⟨rfl,rfl⟩
 refine zf rfl (zW1 rfl rfl (by decide)) ?_
 rintro _ _ ⟨rfl,rfl⟩
 refine WE ?_
 refine WR ?_
 refine zf rfl (efk (c:=fun _=>zU9 v l at_ (by omega))) ?_
 rintro _ _ ⟨_,_,_,⟨c,hc,rfl,rfl⟩,hF,hH⟩
 (refine NST hF hH ?_;clear hF hH;rintro rfl rfl)
 refine WE ?_
 refine zB5 (wk_pool0 (K:=fun F' H'=>F'=_∧H'=_) ⟨rfl,rfl⟩) ?_
 rintro _ _ ⟨rfl,rfl⟩
 refine zm (fun m F H=>∃(k:Nat) (b:Bk) (R1 R2:List Int) (bl:List Nat) (rl:List (Nat × List UInt8 × List UInt8)) (rk c1 c2:Nat),m+k=(cntP at_ l).length∧bkK l (cntP at_ l) k=(b,R1,R2)∧BkOk b k∧bl.length=b.js.length∧RunOk b.js rl∧MapOk rl rk∧R1.length≤c1∧R2.length≤c2∧F = [(0,.c (.r v (noRs l))),(5,.p 0 0 0),(18,.o 9 0 (cntP at_ l).length c),(19,.c (I (cntP at_ l).length)),(20,.c (I k))]∧H = [.box [.mp 1,.mp 2,.mp 3,.mp 4,.mp 5,.o 6 0 (R1).length c1,.o 7 0 (R2).length c2],mSP (jlF 0 b.js bl) b.js.length,mSS rl rk,mSS b.sp b.spk,mSI b.lf b.lfk,mSI b.us b.usk,.arr 3 1 c1 (nR (R1)),.arr 31 1 c2 (nR (R2)),.pool (plF jbP b.js bl),.arr 3 1 c (nR (cntP at_ l))]) ?_ ?_
 ·refine wkg [some 5,some 0,some 1,some 2,some 3,some 4,none,none,some 7,some 6] (fun _=>[(0,.c (.r v (noRs l))),(5,.p 0 0 0),(18,.o 9 0 (cntP at_ l).length c),(19,.c (I (cntP at_ l).length)),(20,.c (I (0:Nat)))]) (fun _=>[.box [.mp 1,.mp 2,.mp 3,.mp 4,.mp 5,.o 6 0 0 0,.o 7 0 0 0],mSP [] 0,mSS [] 0,mSS [] 0,mSI [] 0,mSI [] 0,.arr 3 1 0 [],.arr 31 1 0 [],.pool [],.arr 3 1 c (nR (cntP at_ l))]) (fun _=>?_)
  exact⟨_,0,bk0,[],[],[],[],0,0,0,Nat.add_zero _,rfl,.zero,rfl,fun s=>rfl,.nil,Nat.le_refl _,Nat.le_refl _,rfl,rfl⟩
 rintro m F H ⟨k,b,R1,R2,bl,rl,rk,c1,c2,hk,hbk,hB,hbl,hrl,hrm,hc1,hc2,rfl,rfl⟩
 have hRl:=zE11 l (cntP at_ l) k
 rw[hbk] at hRl
 simp only at hRl
 refine WA ?_
 refine zl rfl (fun hlt=>?_) (fun hge=>?_)
 ·obtain⟨i0,hi0⟩:∃z,(cntP at_ l)[k]?=some z:=⟨_,List.getElem?_eq_getElem (by omega)⟩
  obtain⟨i,rfl,hil⟩:=hix i0 (List.mem_of_getElem? hi0)
  have hrow:(nR (cntP at_ l))[k]?=some [I i]:=by rw[List.getElem?_map,hi0];rfl
  obtain⟨x,hx⟩:∃x,l[i]?=some x:=⟨_,List.getElem?_eq_getElem hil⟩
  have hrow0:=zY6 hx
  have hxn:=hs x (List.mem_of_getElem? hx)
  have hst:=zb4 hi0 (show l[((i:Nat):Int).toNat]?=some x from hx)
  rw[hbk] at hst
  have hn6:x.kd=6→0≤x.n∧x.n≤100000000:=fun h=>by have:=(zS10 hxn).2.2.2 h;omega
  obtain⟨st,no,xat,kn,pr,jb,sn,n,of_,ot⟩:=x
  have hrow2:(noRs l)[i]?=some [T st,I no,I xat,I kn,T pr,T jb,T sn,I n,T of_,I ot]:=hrow0
  refine WA ?_
  refine WR ?_
  refine zf rfl (zX1 [0,1,2,3,4,5,6,7,8] (fun _=>[.box [.mp 1,.mp 2,.mp 3,.mp 4,.mp 5,.o 6 0 (R1).length c1,.o 7 0 (R2).length c2],mSP (jlF 0 b.js bl) b.js.length,mSS rl rk,mSS b.sp b.spk,mSI b.lf b.lfk,mSI b.us b.usk,.arr 3 1 c1 (nR (R1)),.arr 31 1 c2 (nR (R2)),.pool (plF jbP b.js bl)]) false (fun _=>zB10 b.js bl rl rk b.sp b.spk b.lf b.lfk b.us b.usk c1 c2 R1 R2 ⟨st,no,xat,kn,pr,jb,sn,n,of_,ot⟩ hB.js hbl hrl hB.sp) rfl .fn rfl (by decide) (by kernel_rfl) rfl (fun _=>.cons (.p rfl) (.cons (.aL (C0 rfl)) .nil)) (by decide) ZCH (by simp)) ?_
  rintro F1 H1 ⟨_,_,_,_,⟨rfl,rfl⟩,hF,hH⟩
  rw[zS] at hF;(refine NSU hF hH ?_;clear hF hH;rintro rfl rfl)
  refine WE ?_
  generalize hrf:rfE b ⟨st,no,xat,kn,pr,jb,sn,n,of_,ot⟩=e at hst ⊢
  refine WA ?_
  refine zl rfl (fun h1=>?_) (fun h1=>?_)
  ·have e1:(nR R1).length=R1.length:=by simp
   have e2:(nR R2).length=R2.length:=by simp
   have hst2:bkK l (cntP at_ l) (k+1)=(b,R1++[(i:Int)],R2++[e]):=by rw[hst,bkStep];simp only;rw[hrf,if_pos h1]
   refine ZZ ?_
   refine zX9 [[(0,none),(1,none),(2,none),(3,none),(4,none),(5,none),(6,none),(9,none),(10,none),(11,none),(12,none),(13,none),(7,some [0,1,2,3,4,5,9,10,11,12,13]),(8,some [0,1,9,10,11,12,13]),(14,some [0,1,2,3,4,5,6,9,10,11,12]),(15,some [0,1]),(16,none),(17,none),(18,some [1]),(19,none),(20,none),(21,some [])],[(0,none),(1,none),(2,none),(3,none),(4,none),(5,none),(6,none),(9,none),(10,none),(11,none),(12,none),(13,none),(7,some [0,1,2,3,4,5,9,10,11,12,13]),(14,some [0,1,2,3,4,5,6,9,10,11,12]),(8,some [0,1,9,10,11,12,13]),(15,some [0,1]),(16,none),(17,none),(18,some [1]),(19,none),(20,none),(21,some [])],[(0,none),(1,none),(2,none),(3,none),(4,none),(5,none),(6,none),(9,none),(10,none),(11,none),(12,none),(13,none),(14,some [0,1,2,3,4,5,6,9,10,11,12]),(7,some [0,1,2,3,4,5,9,10,11,12,13]),(8,some [0,1,9,10,11,12,13]),(15,some [0,1]),(16,none),(17,none),(18,some [1]),(19,none),(20,none),(21,some [])]] zo (by kernel_rfl) ?_
   focus
    refine WM ?_
    refine am_two (by rfl) (by rfl) (by rfl) ?_ ?_
    rotate_left
    refine WM ?_
    refine zZ9 (i:=8) (by rfl) (by rfl) rfl rfl (Zapp (news:=[[I i]]) (j:=1) (hE:=KA (t:=22) rfl) (hsrc:=.own rfl rfl rfl) (hj:=rfl) (hle:=by omega)) ?_
    rintro F1 H1 ⟨_,cc1,hcc1,hF,hH⟩
    (refine NSU hF hH ?_;clear hF hH;rintro rfl rfl)
    refine⟨AGX, ?_⟩
    refine zZ9 (i:=15) (by rfl) (by rfl) rfl rfl (Zapp (news:=[[I e]]) (j:=1) (hE:=KA (t:=47) rfl) (hsrc:=.own rfl rfl rfl) (hj:=rfl) (hle:=by omega)) ?_
    rintro F1 H1 ⟨_,cc2,hcc2,hF,hH⟩
    (refine NSU hF hH ?_;clear hF hH;rintro rfl rfl)
    refine⟨AGX, ?_⟩
    refine WN ?_
    rotate_right
    refine WM ?_
    refine am_two (by rfl) (by rfl) (by rfl) ?_ ?_
    rotate_left
    refine WM ?_
    refine zZ9 (i:=8) (by rfl) (by rfl) rfl rfl (Zapp (news:=[[I i]]) (j:=1) (hE:=KA (t:=22) rfl) (hsrc:=.own rfl rfl rfl) (hj:=rfl) (hle:=by omega)) ?_
    rintro F1 H1 ⟨_,cc1,hcc1,hF,hH⟩
    (refine NSU hF hH ?_;clear hF hH;rintro rfl rfl)
    refine⟨AGX, ?_⟩
    refine zZ9 (i:=15) (by rfl) (by rfl) rfl rfl (Zapp (news:=[[I e]]) (j:=1) (hE:=KA (t:=47) rfl) (hsrc:=.own rfl rfl rfl) (hj:=rfl) (hle:=by omega)) ?_
    rintro F1 H1 ⟨_,cc2,hcc2,hF,hH⟩
    (refine NSU hF hH ?_;clear hF hH;rintro rfl rfl)
    refine⟨AGX, ?_⟩
    refine WN ?_
    rotate_right
    refine zZ9 (i:=8) (by rfl) (by rfl) rfl rfl (Zapp (news:=[[I i]]) (j:=1) (hE:=KA (t:=22) rfl) (hsrc:=.own rfl rfl rfl) (hj:=rfl) (hle:=by omega)) ?_
    rintro F1 H1 ⟨_,cc1,hcc1,hF,hH⟩
    (refine NSU hF hH ?_;clear hF hH;rintro rfl rfl)
    refine⟨AGX, ?_⟩
    refine WM ?_
    refine zZ9 (i:=15) (by rfl) (by rfl) rfl rfl (Zapp (news:=[[I e]]) (j:=1) (hE:=KA (t:=47) rfl) (hsrc:=.own rfl rfl rfl) (hj:=rfl) (hle:=by omega)) ?_
    rintro F1 H1 ⟨_,cc2,hcc2,hF,hH⟩
    (refine NSU hF hH ?_;clear hF hH;rintro rfl rfl)
    refine⟨AGX, ?_⟩
    refine WN ?_
   all_goals (
    refine WA ?_
    refine wkg [some 0,some 1,some 2,some 3,some 4,some 5,some 6,some 7,some 8,some 9] (fun _=>[(0,.c (.r v (noRs l))),(5,.p 0 0 0),(18,.o 9 0 (cntP at_ l).length c),(19,.c (I (cntP at_ l).length)),(20,.c (I (k+1:Nat)))]) (fun _=>[.box [.mp 1,.mp 2,.mp 3,.mp 4,.mp 5,.o 6 0 (R1++[(i:Int)]).length cc1,.o 7 0 (R2++[e]).length cc2],mSP (jlF 0 b.js bl) b.js.length,mSS rl rk,mSS b.sp b.spk,mSI b.lf b.lfk,mSI b.us b.usk,.arr 3 1 cc1 (nR (R1++[(i:Int)])),.arr 31 1 cc2 (nR (R2++[e])),.pool (plF jbP b.js bl),.arr 3 1 c (nR (cntP at_ l))]) (fun _=>?_) (hH:=by simp only[nR,List.map_append,List.length_append,List.length_singleton];exact ZCH)
    exact⟨m - 1,by omega,k+1,b,_,_,bl,rl,rk,cc1,cc2,by omega,hst2,hB.more,hbl,hrl,hrm,by simp at hcc1 ⊢;omega,by simp at hcc2 ⊢;omega,rfl,rfl⟩)
  ·have h0:e=0:=Decidable.not_not.1 h1
   rw[h0] at hrf
   have hst2:bkK l (cntP at_ l) (k+1)=(ntS b ⟨st,no,xat,kn,pr,jb,sn,n,of_,ot⟩,R1,R2):=by rw[hst,bkStep];simp only;rw[hrf,if_neg (by simp)]
   have hnx:=hB.next hxn hrf
   refine WR ?_
   refine zf rfl (zX1 [0,1,2,3,4,5,6,7,8] (fun _=>[.box [.mp 1,.mp 2,.mp 3,.mp 4,.mp 5,.o 6 0 (R1).length c1,.o 7 0 (R2).length c2],mSP (jlF 0 b.js bl) b.js.length,mSS rl rk,mSS b.sp b.spk,mSI b.lf b.lfk,mSI b.us b.usk,.arr 3 1 c1 (nR (R1)),.arr 31 1 c2 (nR (R2)),.pool (plF jbP b.js bl)]) false (fun _=>note_v b.js bl rl rk b.sp b.spk b.lf b.lfk b.us b.usk c1 c2 R1 R2 ⟨st,no,xat,kn,pr,jb,sn,n,of_,ot⟩ hB.js hbl hrl hrm hrf hn6 (hB.spb (by omega))) rfl .fn rfl (by decide) (by kernel_rfl) rfl (fun _=>.cons (.p rfl) (.cons (.aL (C0 rfl)) .nil)) (by decide) ZCH (by simp)) ?_
   rintro F1 H1 ⟨_,_,_,_,⟨rfl,b2,bl2,rl2,rk2,hb2,hbl2,hrl2,hrm2,rfl⟩,hF,hH⟩
   rw[zS] at hF;(refine NSU hF hH ?_;clear hF hH;rintro rfl rfl)
   refine WE ?_
   rw[←hb2] at hst2 hnx
   refine WA ?_
   refine wkg [some 0,some 1,some 2,some 3,some 4,some 5,some 6,some 7,some 8,some 9] (fun _=>[(0,.c (.r v (noRs l))),(5,.p 0 0 0),(18,.o 9 0 (cntP at_ l).length c),(19,.c (I (cntP at_ l).length)),(20,.c (I (k+1:Nat)))]) (fun _=>[.box [.mp 1,.mp 2,.mp 3,.mp 4,.mp 5,.o 6 0 (R1).length c1,.o 7 0 (R2).length c2],mSP (jlF 0 b2.js bl2) b2.js.length,mSS rl2 rk2,mSS b2.sp b2.spk,mSI b2.lf b2.lfk,mSI b2.us b2.usk,.arr 3 1 c1 (nR (R1)),.arr 31 1 c2 (nR (R2)),.pool (plF jbP b2.js bl2),.arr 3 1 c (nR (cntP at_ l))]) (fun _=>?_)
   exact⟨m - 1,by omega,k+1,b2,R1,R2,bl2,rl2,rk2,c1,c2,by omega,hst2,hnx,hbl2,hrl2,hrm2,hc1,hc2,rfl,rfl⟩
 obtain rfl:k=(cntP at_ l).length:=by omega
 refine WA ?_
 have hBB:BkOk b 2000:=⟨hB.js,hB.sp,hB.lf,hB.us,hB.l,fun s=>⟨(hB.u s).1,by have:=(hB.u s).2;omega⟩⟩
 exact aret_p [some 0,some 1,some 2,some 3,some 4,some 5,some 6,some 7,some 8] (fun _=>[.box [.mp 1,.mp 2,.mp 3,.mp 4,.mp 5,.o 6 0 (R1).length c1,.o 7 0 (R2).length c2],mSP (jlF 0 b.js bl) b.js.length,mSS rl rk,mSS b.sp b.spk,mSI b.lf b.lfk,mSI b.us b.usk,.arr 3 1 c1 (nR (R1)),.arr 31 1 c2 (nR (R2)),.pool (plF jbP b.js bl)]) rfl rfl rfl (by decide) (ZNK rfl) ZCH (fun _=>⟨b,R1,R2,bl,rl,rk,c1,c2,hbk,hBB,hbl,hrl,hrm,by omega,by omega,hc1,hc2,rfl,rfl⟩)
end Go.Proofs.YtophoepbedlhjaaGreatDoor
namespace Go.Proofs.YtophoepbedlhjaaGreatDoor
open Go Go.RowKit
def cU (at_:Int):(List UInt8 × Int)→List Nt→Bool
 | _,[]=>false
 | key,y :: l=>if at_ < y.at_ then false else (decide (y.kd=7∧(y.of_,y.ot)=key) && !cU at_ (ky y) l) || cU at_ key l
def cR (at_:Int):List Nt→Bool
 | []=>false
 | x :: l=>decide (x.at_≤at_) && !cU at_ (ky x) l
theorem cU_late {at_:Int} {s:List UInt8 × Int}:∀{l:List Nt},(∀y,l.head?=some y→at_ < y.at_)→cU at_ s l=false
 | [],_=>rfl
 | y :: l,h=>by rw[cU,if_pos (h y rfl)]
theorem cst_is {at_:Int} {l:List Nt} (hs:∀i x y,l[i]?=some x→l[i+1]?=some y→x.at_≤y.at_):∀k,k≤l.length→(∀s,(cst at_ l k).1.contains s=cU at_ s (l.drop (l.length - k)))∧(cst at_ l k).2.reverse=(((List.range l.length).drop (l.length - k)).filter fun i=>cR at_ (l.drop i)).map (fun i:Nat=>(i:Int))
 | 0,_=>by
  refine⟨fun s=>?_, ?_⟩
  ·rw[Nat.sub_zero,List.drop_length];rfl
  ·rw[Nat.sub_zero,List.drop_of_length_le (by simp)];rfl
 | k+1,h=>by
  obtain⟨h1,h2⟩:=cst_is (at_:=at_) hs k (by omega)
  obtain⟨x,hx,hbx⟩:=zB11 (show k < l.length by omega)
  have hd:l.drop (l.length - (k+1))=x :: l.drop (l.length - k):=by
   rw[show l.length - (k+1)=l.length - 1 - k by omega,zj8 hx,show l.length - 1 - k+1=l.length - k by omega]
  have hr:(List.range l.length).drop (l.length - (k+1))=(l.length - 1 - k) :: (List.range l.length).drop (l.length - k):=by
   rw[show l.length - (k+1)=l.length - 1 - k by omega,zj8 (List.getElem?_range (show l.length - 1 - k < l.length by omega)),show l.length - 1 - k+1=l.length - k by omega]
  have hd2:l.drop (l.length - 1 - k)=x :: l.drop (l.length - k):=by rw[←hd,show l.length - (k+1)=l.length - 1 - k by omega]
  rw[zC6 hbx,hd,hr,List.filter_cons]
  have hlate:at_ < x.at_→∀s,cU at_ s (l.drop (l.length - k))=false:=fun hl s=>cU_late fun y hy=>by
   rw[List.head?_drop] at hy
   have:=hs (l.length - 1 - k) x y hx (by rw[show l.length - 1 - k+1=l.length - k by omega];exact hy)
   omega
  have hcR:cR at_ (l.drop (l.length - 1 - k))=(decide (x.at_≤at_) && !cU at_ (ky x) (l.drop (l.length - k))):=by rw[hd2];rfl
  have hk:=h1 (ky x)
  generalize cst at_ l k=cs at h1 h2 hk
  obtain⟨ud,out⟩:=cs
  simp only at h1 h2 hk
  by_cases c1:at_ < x.at_
  ·have e:cstp at_ (ud,out) (l.length - 1 - k,x)=(ud,out):=by unfold cstp;rw[if_pos (.inl c1)]
   rw[e]
   refine⟨fun s=>?_, ?_⟩
   ·rw[cU,if_pos c1,←hlate c1 s];exact h1 s
   ·rw[if_neg (by rw[hcR,decide_eq_false (by omega)];simp)];exact h2
  by_cases c2:ky x∈ud
  ·have e:cstp at_ (ud,out) (l.length - 1 - k,x)=(ud,out):=by unfold cstp;rw[if_pos (.inr c2)]
   have e2:cU at_ (ky x) (l.drop (l.length - k))=true:=by rw[←hk];exact List.contains_iff_mem.2 c2
   rw[e]
   refine⟨fun s=>?_, ?_⟩
   ·rw[cU,if_neg c1,e2];simp only[Bool.not_true,Bool.and_false,Bool.false_or];exact h1 s
   ·rw[if_neg (by rw[hcR,e2];simp)];exact h2
  ·have e2:cU at_ (ky x) (l.drop (l.length - k))=false:=by rw[←hk,Bool.eq_false_iff];exact fun h=>c2 (List.contains_iff_mem.1 h)
   have e:cstp at_ (ud,out) (l.length - 1 - k,x)=(if x.kd=7 then ud++[(x.of_,x.ot)] else ud,out++[((l.length - 1 - k:Nat):Int)]):=by unfold cstp;rw[if_neg (fun h=>h.elim c1 c2)]
   rw[e]
   refine⟨fun s=>?_, ?_⟩
   ·rw[cU,if_neg c1,e2,Bool.not_false,Bool.and_true,←h1 s]
    by_cases h7:x.kd=7
    ·rw[if_pos h7]
     by_cases hs7:(x.of_,x.ot)=s
     ·subst hs7;simp[h7]
     ·rw[decide_eq_false (fun h=>hs7 h.2),Bool.false_or,List.contains_eq_mem,List.contains_eq_mem]
      simp[Ne.symm hs7]
    ·rw[if_neg h7,decide_eq_false (fun h=>h7 h.1),Bool.false_or]
   ·have hc:cR at_ (l.drop (l.length - 1 - k))=true:=by rw[hcR,e2,decide_eq_true (by omega)];rfl
    rw[if_pos hc,List.map_cons,List.reverse_append,List.reverse_singleton,h2];rfl
theorem cntP_doc {at_:Int} {l:List Nt} (hs:∀i x y,l[i]?=some x→l[i+1]?=some y→x.at_≤y.at_):cntP at_ l=((List.range l.length).filter fun i=>cR at_ (l.drop i)).map (fun i:Nat=>(i:Int)):=by
 have:=(cst_is (at_:=at_) hs l.length (Nat.le_refl _)).2
 rw[Nat.sub_self,List.drop_zero] at this
 exact this
end Go.Proofs.YtophoepbedlhjaaGreatDoor
namespace Go.Proofs.YtophoepbedlhjaaGreatDoor
open Go Go.RowKit
theorem zn9:∀(l:List Nt) (p:Option Nt),chkA p l=0→(∀x,l.head?=some x→badO p x=false)∧∀i x y,l[i]?=some x→l[i+1]?=some y→cmpNt x y < 0
 | [],p,_=>⟨fun x h=>by simp at h,fun i x y h=>by simp at h⟩
 | z :: l,p,h=>by
  rw[zZ3] at h
  split at h
  ·rename_i h1;exact absurd h h1
  split at h
  ·cases h
  ·rename_i h2
   obtain⟨h3,h4⟩:=zn9 l (some z) h
   refine⟨fun x hx=>?_,fun i x y hx hy=>?_⟩
   ·simp only[List.head?_cons,Option.some.injEq] at hx
    subst hx;simpa using h2
   ·cases i with
    | zero=>
     simp only[List.getElem?_cons_zero,Option.some.injEq] at hx
     subst hx
     have:=h3 y (by rw[List.head?_eq_getElem?];simpa using hy)
     have h5:decide (0≤cmpNt z y)=false:=this
     have:=of_decide_eq_false h5
     omega
    | succ i=>exact h4 i x y (by simpa using hx) (by simpa using hy)
theorem zm9 {l:List Nt} (h:chkN l=0):∀i x y,l[i]?=some x→l[i+1]?=some y→x.at_≤y.at_:=by
 unfold chkN at h
 split at h
 ·cases h
 split at h
 ·rename_i h1;exact absurd h h1
 ·rename_i h1
  have h2:chkA none l=0:=Decidable.not_not.1 h1
  intro i x y hx hy
  have:=(zn9 l none h2).2 i x y hx hy
  rw[zD6] at this
  omega
theorem zw4 {at_:Int} {l:List Nt} (h:chkN l=0):cntP at_ l=((List.range l.length).filter fun i=>cR at_ (l.drop i)).map (fun i:Nat=>(i:Int)):=cntP_doc (zm9 h)
end Go.Proofs.YtophoepbedlhjaaGreatDoor
-- NEWM
namespace Go.Proofs.YtophoepbedlhjaaGreatDoor
open Go Go.RowKit
set_option maxRecDepth 100000
def BkR (l:List Nt) (at_:Int) (H:List OB):Prop:=∃(b:Bk) (R1 R2:List Int) (bl:List Nat) (rl:List (Nat × List UInt8 × List UInt8)) (rk c1 c2:Nat),bksF l (cntP at_ l)=(b,R1,R2)∧BkOk b 2000∧bl.length=b.js.length∧RunOk b.js rl∧MapOk rl rk∧R1.length≤2000∧R2.length≤2000∧R1.length≤c1∧R2.length≤c2∧H = [.box [.mp 1,.mp 2,.mp 3,.mp 4,.mp 5,.o 6 0 (R1).length c1,.o 7 0 (R2).length c2],mSP (jlF 0 b.js bl) b.js.length,mSS rl rk,mSS b.sp b.spk,mSI b.lf b.lfk,mSI b.us b.usk,.arr 3 1 c1 (nR (R1)),.arr 31 1 c2 (nR (R2)),.pool (plF jbP b.js bl)]
theorem zp9:∀(l:List Nt) (p:Option Nt),chkA p l=0→∀x∈l,ntF x=0
 | [],_,_,x,hx=>by cases hx
 | y :: l,p,h,x,hx=>by
  rw[zZ3] at h
  split at h
  ·rename_i h1;exact absurd h h1
  ·rename_i h1
   split at h
   ·cases h
   ·rcases List.mem_cons.1 hx with rfl|hx
    ·exact Decidable.not_not.1 h1
    ·exact zp9 l _ h x hx
theorem zs2 {l:List Nt} (h:chkN l=0):l.length≤2000∧∀x∈l,ntF x=0:=by
 refine⟨(zV9 h).2,zp9 l none ?_⟩
 unfold chkN at h
 split at h
 ·cases h
 ·split at h
  ·rename_i h1;exact absurd h h1
  ·rename_i h1;exact Decidable.not_not.1 h1
theorem cntP_ix {l:List Nt} {at_:Int} (h:chkN l=0):∀i∈cntP at_ l,∃k:Nat,i=k∧k < l.length:=fun i hi=>by
 rw[zw4 h] at hi
 obtain⟨k,hk,rfl⟩:=List.mem_map.1 hi
 exact⟨k,rfl,List.mem_range.1 (List.mem_filter.1 hk).1⟩
theorem zt2 {l:List Nt} {at_:Int} (h:askF l at_=0):chkN l=0:=by
 unfold askF at h
 split at h
 ·rename_i h1;exact absurd h h1
 ·rename_i h1;exact Decidable.not_not.1 h1
theorem zz4 (v:Value) (l:List Nt) (at_:Int) (hl:l.length≤1000000) (hs:∀x∈l,NtS x) (h0:askF l at_≠0):ACalls Tryz.prog 54 [.c (.r v (noRs l)),.c (I at_)] [] fun u H=>u = .t [.c (.s (.pointer none)),.c (I (askF l at_))]∧H = []:=by
 refine zb (N:=16) Tryz.func54 rfl rfl (by simp) fun E hE=>?_
 refine WA ?_
 refine WR ?_
 refine zf rfl (efk (c:=fun _=>zI11 v l at_ hl hs)) ?_
 rintro _ _ ⟨_,_,_,⟨rfl,rfl⟩,hF,hH⟩
 (refine NST hF hH ?_;clear hF hH;rintro rfl rfl)
 refine WE ?_
 generalize askF l at_=e at h0 ⊢
 refine WA ?_
 refine zd rfl ?_
 refine WA ?_
 exact zd4 [] _ rfl rfl rfl rfl rfl (by decide) (ZNK rfl) (fun _=>.nil) ⟨rfl,rfl⟩
theorem zy4 (v:Value) (l:List Nt) (at_:Int) (hl:l.length≤1000000) (hs:∀x∈l,NtS x) (h0:askF l at_=0):ACalls Tryz.prog 54 [.c (.r v (noRs l)),.c (I at_)] [] fun u H=>u = .t [.p 0 0 0,.c (I 0)]∧BkR l at_ H:=by
 refine zb (N:=16) Tryz.func54 rfl rfl (by simp) fun E hE=>?_
 refine WA ?_
 refine WR ?_
 refine zf rfl (efk (c:=fun _=>zI11 v l at_ hl hs)) ?_
 rintro _ _ ⟨_,_,_,⟨rfl,rfl⟩,hF,hH⟩
 (refine NST hF hH ?_;clear hF hH;rintro rfl rfl)
 refine WE ?_
 rw[h0]
 refine WA ?_
 refine za rfl ?_
 refine WR ?_
 refine zf rfl (efk (c:=fun _=>zD11 v l at_ (zs2 (zt2 h0)).1 (zs2 (zt2 h0)).2 (cntP_ix (zt2 h0)))) ?_
 rintro _ _ ⟨_,_,_,⟨b,R1,R2,bl,rl,rk,c1,c2,hbf,hB,hbl,hrl,hrm,h1l,h2l,hc1,hc2,rfl,rfl⟩,hF,hH⟩
 (refine NST hF hH ?_;clear hF hH;rintro rfl rfl)
 refine WE ?_
 exact zI (us:=[.p 0 0 0,.c (I 0)]) [some 0,some 1,some 2,some 3,some 4,some 5,some 6,some 7,some 8] (fun _=>.t [.p 0 0 0,.c (I 0)]) (fun _=>[.box [.mp 1,.mp 2,.mp 3,.mp 4,.mp 5,.o 6 0 (R1).length c1,.o 7 0 (R2).length c2],mSP (jlF 0 b.js bl) b.js.length,mSS rl rk,mSS b.sp b.spk,mSI b.lf b.lfk,mSI b.us b.usk,.arr 3 1 c1 (nR (R1)),.arr 31 1 c2 (nR (R2)),.pool (plF jbP b.js bl)]) (.tmp rfl (.tmp rfl .nil)) (by decide) (ZNK rfl) (fun _=>.tL (.cons (.p rfl) (.cons (.c rfl) .nil))) ZCH (fun _=>⟨rfl,b,R1,R2,bl,rl,rk,c1,c2,hbf,hB,hbl,hrl,hrm,h1l,h2l,hc1,hc2,rfl⟩)
theorem zA10 (v:Value) (l:List Nt) (at_:Int) (hl:l.length≤1000000) (hs:∀x∈l,NtS x):ACalls Tryz.prog 13 [.c (.r v (noRs l)),.c (I at_)] [] fun u H=>∃(R1 R2:List Int) (c1 c2:Nat),R1=(if askF l at_=0 then (bksF l (cntP at_ l)).2.1 else [])∧R2=(if askF l at_=0 then (bksF l (cntP at_ l)).2.2 else [])∧R1.length≤2000∧R2.length≤2000∧R1.length≤c1∧R2.length≤c2∧u = .t [.o 0 0 R1.length c1,.o 1 0 R2.length c2,.c (I (askF l at_))]∧H = [.arr 3 1 c1 (nR R1),.arr 31 1 c2 (nR R2)]:=by
 by_cases h0:askF l at_=0
 ·rw[if_pos h0,if_pos h0,h0]
  refine zb (N:=26) Tryz.func13 rfl rfl (by simp) fun E hE=>?_
  refine WA ?_
  refine WR ?_
  refine zf rfl (efk (c:=fun _=>zy4 v l at_ hl hs h0)) ?_
  rintro _ _ ⟨_,_,_,⟨rfl,b,R1,R2,bl,rl,rk,c1,c2,hbf,hB,hbl,hrl,hrm,h1l,h2l,hc1,hc2,rfl⟩,hF,hH⟩
  (refine NST hF hH ?_;clear hF hH;rintro rfl rfl)
  refine WE ?_
  refine WA ?_
  refine za rfl ?_
  refine ZZ ?_
  refine zc [(0,none),(1,none),(2,none),(3,none),(4,none),(5,none),(6,none),(7,none),(8,none),(9,none),(10,none)] zo (by kernel_rfl) ?_
  refine WQ ?_
  exact zI (us:=[.o 6 0 R1.length c1,.o 7 0 R2.length c2,.c (I 0)]) [some 6,some 7] (fun _=>.t [.o 0 0 R1.length c1,.o 1 0 R2.length c2,.c (I 0)]) (fun _=>[.arr 3 1 c1 (nR R1),.arr 31 1 c2 (nR R2)]) (.tmp rfl (.tmp rfl (.tmp rfl .nil))) (by decide) (ZNK rfl) (fun _=>.tL (.cons (.o rfl rfl) (.cons (.o rfl rfl) (.cons (.c rfl) .nil)))) ZCH (fun _=>⟨R1,R2,c1,c2,by rw[hbf],by rw[hbf],h1l,h2l,hc1,hc2,rfl,rfl⟩)
 ·rw[if_neg h0,if_neg h0]
  refine zb (N:=26) Tryz.func13 rfl rfl (by simp) fun E hE=>?_
  refine WA ?_
  refine WR ?_
  refine zf rfl (efk (c:=fun _=>zz4 v l at_ hl hs h0)) ?_
  rintro _ _ ⟨_,_,_,⟨rfl,rfl⟩,hF,hH⟩
  (refine NST hF hH ?_;clear hF hH;rintro rfl rfl)
  refine WE ?_
  generalize askF l at_=e at h0 ⊢
  refine WA ?_
  refine zd rfl ?_
  refine WA ?_
  exact zI (us:=[.c (.r (.slice none 0 0) []),.c (.r (.slice none 0 0) []),.c (I e)]) [none,none] (fun _=>.t [.o 0 0 0 0,.o 1 0 0 0,.c (I e)]) (fun _=>[.arr 3 1 0 [],.arr 31 1 0 []]) (.tmp rfl (.tmp rfl (.tmp rfl .nil))) (by decide) (ZNK rfl) (fun _=>.tL (.cons (.nil rfl) (.cons (.nil rfl) (.cons (.c rfl) .nil)))) ZCH (fun _=>⟨[],[],0,0,rfl,rfl,Nat.zero_le _,Nat.zero_le _,Nat.le_refl _,Nat.le_refl _,rfl,rfl⟩)
def jobE (l:List Nt) (s:List UInt8) (at_:Int):Int:=if askF l at_≠0 then askF l at_ else if keyB s=false then 5 else if (nmI (bksF l (cntP at_ l)).1.js s).isSome=true then 0 else 8
theorem jobat_v (v:Value) (l:List Nt) (at_:Int) (hl:l.length≤1000000) (hs:∀x∈l,NtS x) (s:List UInt8) (hsl:s.length≤1000000):ACalls Tryz.prog 56 [.c (.r v (noRs l)),.c (T s),.c (I at_)] [] fun u H=>(jobE l s at_≠0∧u = .t [.c (.s (.pointer none)),.c (I (jobE l s at_))]∧H = [])∨(jobE l s at_=0∧∃(k b0:Nat) (j:Jb) (pl:List PE),nmI (bksF l (cntP at_ l)).1.js s=some k∧(bksF l (cntP at_ l)).1.js[k]?=some j∧BkOk (bksF l (cntP at_ l)).1 2000∧InPool k b0 pl (jbP j)∧u = .t [pV b0,.c (I 0)]∧H = [.pool pl]):=by
 by_cases h0:askF l at_=0
 ·obtain⟨ky_,hky⟩:∃q,keyB s=q:=⟨_,rfl⟩
  refine zb (N:=35) Tryz.func56 rfl rfl (by simp) fun E hE=>?_
  refine WA ?_
  refine WR ?_
  refine zf rfl (efk (c:=fun _=>zy4 v l at_ hl hs h0)) ?_
  rintro _ _ ⟨_,_,_,⟨rfl,b,R1,R2,bl,rl,rk,c1,c2,hbf,hB,hbl,hrl,hrm,h1l,h2l,hc1,hc2,rfl⟩,hF,hH⟩
  (refine NST hF hH ?_;clear hF hH;rintro rfl rfl)
  refine WE ?_
  refine WA ?_
  refine za rfl ?_
  refine WR ?_
  refine zf rfl (efk (c:=fun _=>zn4 s (by omega))) ?_
  rintro _ _ ⟨_,_,_,⟨rfl,rfl⟩,hF,hH⟩
  rw[hky] at hF
  (refine NST hF hH ?_;clear hF hH;rintro rfl rfl)
  refine WE ?_
  cases ky_ with
  | false=>
   refine zd rfl ?_
   refine WA ?_
   have he:jobE l s at_=5:=by unfold jobE;rw[if_neg (by simpa using h0),if_pos hky]
   exact zd4 [] _ rfl rfl rfl rfl rfl (by decide) (ZNK rfl) (fun _=>.nil) (.inl ⟨by rw[he];decide,by rw[he],rfl⟩)
  | true=>
   refine za rfl ?_
   refine ZZ ?_
   rcases hnj:nmI b.js s with _|k
   ·have hjb:(mget (jlF 0 b.js bl) s).getD (.pointer none) = .pointer none:=by rw[zl4 hbl hnj];rfl
    refine ZR ?_
    iterate 5 refine WX1 ?_
    refine ZA (zf3 (k:=s) (l:=(jlF 0 b.js bl)) hjb rfl rfl rfl rfl) ?_
    refine WE ?_
    refine zd rfl ?_
    refine WA ?_
    have he:jobE l s at_=8:=by unfold jobE;rw[if_neg (by simpa using h0),if_neg (by rw[hky];decide),hbf];simp[hnj]
    exact zd4 [] _ rfl rfl rfl rfl rfl (by decide) (ZNK rfl) (fun _=>.nil) (.inl ⟨by rw[he];decide,by rw[he],rfl⟩)
   ·obtain⟨j,hj,_⟩:=nmI_some hnj
    obtain⟨b0,hb1,hb2⟩:=zq5 hbl hnj
    have hjb:(mget (jlF 0 b.js bl) s).getD (.pointer none)=ptrV b0:=by rw[hb2];rfl
    have he:jobE l s at_=0:=by unfold jobE;rw[if_neg (by simpa using h0),if_neg (by rw[hky];decide),hbf];simp[hnj]
    refine ZR ?_
    iterate 5 refine WX1 ?_
    refine ZA (zf3 (k:=s) (l:=(jlF 0 b.js bl)) hjb rfl rfl rfl rfl) ?_
    refine WE ?_
    refine za rfl ?_
    refine ZR ?_
    iterate 5 refine WX1 ?_
    refine ZA (zf3 (k:=s) (l:=(jlF 0 b.js bl)) hjb rfl rfl rfl rfl) ?_
    refine WE ?_
    exact zd4 [some 8] [.pool (plF jbP b.js bl)] rfl rfl rfl rfl rfl (by decide) (ZNK rfl) ZCH (.inr ⟨he,k,b0,j,_,by rw[hbf];exact hnj,by rw[hbf];exact hj,by rw[hbf];exact hB,⟨zj5 hj hb1⟩,rfl,rfl⟩)
 ·refine zb (N:=35) Tryz.func56 rfl rfl (by simp) fun E hE=>?_
  refine WA ?_
  refine WR ?_
  refine zf rfl (efk (c:=fun _=>zz4 v l at_ hl hs h0)) ?_
  rintro _ _ ⟨_,_,_,⟨rfl,rfl⟩,hF,hH⟩
  (refine NST hF hH ?_;clear hF hH;rintro rfl rfl)
  refine WE ?_
  have he:jobE l s at_=askF l at_:=by unfold jobE;rw[if_pos h0]
  rw[he]
  generalize askF l at_=e at h0 ⊢
  refine WA ?_
  refine zd rfl ?_
  refine WA ?_
  exact zd4 [] _ rfl rfl rfl rfl rfl (by decide) (ZNK rfl) (fun _=>.nil) (.inl ⟨h0,rfl,rfl⟩)
end Go.Proofs.YtophoepbedlhjaaGreatDoor
-- NEWM
namespace Go.Proofs.YtophoepbedlhjaaGreatDoor
open Go Go.RowKit
set_option maxRecDepth 100000
end Go.Proofs.YtophoepbedlhjaaGreatDoor
-- NEWM
namespace Go.Proofs.YtophoepbedlhjaaGreatDoor
open Go Go.RowKit
set_option maxRecDepth 100000
end Go.Proofs.YtophoepbedlhjaaGreatDoor
-- NEWM
namespace Go.Proofs.YtophoepbedlhjaaGreatDoor
open Go Go.RowKit
set_option maxRecDepth 100000
end Go.Proofs.YtophoepbedlhjaaGreatDoor
-- NEWM
namespace Go.Proofs.YtophoepbedlhjaaGreatDoor
open Go Go.RowKit
set_option maxRecDepth 100000
end Go.Proofs.YtophoepbedlhjaaGreatDoor
-- NEWM
namespace Go.Proofs.YtophoepbedlhjaaGreatDoor
open Go Go.RowKit Go.Shelf
set_option maxRecDepth 100000
abbrev Pr:=List UInt8 × List UInt8
abbrev prR (x:Pr):List CV:=[T x.1,T x.2]
abbrev prRs (l:List Pr):List (List CV):=l.map prR
abbrev prA (x:Pr):AV:=.a [.c (T x.1),.c (T x.2)]
end Go.Proofs.YtophoepbedlhjaaGreatDoor
-- NEWM
namespace Go.Proofs.YtophoepbedlhjaaGreatDoor
open Go Go.RowKit
set_option maxRecDepth 100000
theorem zv10 {n:Nat} {seen:List Nat} (hn:seen.Nodup) (h1:∀k∈seen,k < n) (h2:∀k,k < n→k∈seen):seen.Perm (List.range n):=
 (List.perm_ext_iff_of_nodup hn List.nodup_range).2 fun k=>⟨fun h=>List.mem_range.2 (h1 k h),fun h=>h2 k (List.mem_range.1 h)⟩
theorem zS8 {α β:Type} (f:α→Option β):∀(l:List α),((List.range l.length).filterMap fun k=>l[k]?.bind f)=l.filterMap f
 | []=>rfl
 | x :: l=>by
  rw[List.length_cons,List.range_succ_eq_map,List.filterMap_cons,List.filterMap_map]
  simp only[Function.comp_def,List.getElem?_cons_zero,List.getElem?_cons_succ,Option.bind_some,Nat.succ_eq_add_one]
  rw[zS8 f l,List.filterMap_cons]
def fmJ {β:Type} (f:Jb→Option β) (js:List Jb) (seen:List Nat):List β:=seen.filterMap fun k=>js[k]?.bind f
theorem fmJ_some {β:Type} {f:Jb→Option β} {js:List Jb} {seen:List Nat} {k:Nat} {j:Jb} {p:β} (h:js[k]?=some j) (hf:f j=some p):fmJ f js (seen++[0+k])=fmJ f js seen++[p]:=by
 unfold fmJ
 rw[List.filterMap_append,Nat.zero_add]
 simp[h,hf]
theorem fmJ_all {β:Type} {f:Jb→Option β} {js:List Jb} {seen:List Nat} (hn:seen.Nodup) (h1:∀k∈seen,k < js.length) (h2:∀k,k < js.length→k∈seen):(fmJ f js seen).Perm (js.filterMap f):=by
 have:=(zv10 hn h1 h2).filterMap fun k=>js[k]?.bind f
 rwa [zS8 f js] at this
theorem fmJ_len {β:Type} (f:Jb→Option β) (js:List Jb) (seen:List Nat):(fmJ f js seen).length≤seen.length:=List.length_filterMap_le _ _
theorem ntS_len (b:Bk) (x:Nt):(ntS b x).js.length≤b.js.length+1:=by
 unfold ntS
 repeat' split
 all_goals simp[layJ,stopJ]
 all_goals (split <;> simp)
theorem bkK_js (l:List Nt) (ix:List Int):∀k,(bkK l ix k).1.js.length≤k
 | 0=>by simp[bkK,bk0]
 | k+1=>by
  have h:=bkK_js l ix k
  rw[bkK]
  split
  ·split
   ·unfold bkStep
    split
    ·simp only;omega
    ·rename_i x _ _
     have:=ntS_len (bkK l ix k).1 x
     simp only
     omega
   ·omega
  ·omega
theorem bksF_js {l:List Nt} {at_:Int} (hl:l.length≤2000):(bksF l (cntP at_ l)).1.js.length≤2000:=by
 have h1:=bkK_js l (cntP at_ l) (cntP at_ l).length
 have h2:=zu4 at_ l l.length (Nat.le_refl _)
 have h3:(cntP at_ l).length≤2000:=by unfold cntP;rw[List.length_reverse];omega
 unfold bksF
 omega
theorem unsG_le {α β:Type} (es:List (Nat × α × β)) (seen:List Nat):unsG es seen≤es.length:=by
 unfold unsG
 exact List.length_filter_le _ _
def stPr (j:Jb):Option Pr:=some (j.nm,stW j.st)
end Go.Proofs.YtophoepbedlhjaaGreatDoor
namespace Go.Proofs.YtophoepbedlhjaaGreatDoor
open Go Go.RowKit
section
variable {P:Program} {N:Nat} {E:Env} {F:Fm} {H:List OB} {o:Oper}
end
section
variable {P:Program} {N:Nat} {E:Env} {F:Fm} {H:List OB} {S:Nat→Prop} {ρ:List (Option Nat)} {a:Act} {w:World}
end
end Go.Proofs.YtophoepbedlhjaaGreatDoor
-- NEWM
namespace Go.Proofs.YtophoepbedlhjaaGreatDoor
open Go Go.RowKit Go.Shelf
set_option maxRecDepth 100000
end Go.Proofs.YtophoepbedlhjaaGreatDoor
