/- The stream, by value: notes. -/
import Derived.Test.YtophoepbedlhjaaGreatDoorQbm
import Derived.Test.YtophoepbedlhjaaGreatDoorQbd
import Derived.Test.YtophoepbedlhjaaGreatDoorQbf
set_option linter.unusedSimpArgs false
set_option linter.unusedVariables false
-- NEWM
namespace Go.Proofs.YtophoepbedlhjaaGreatDoor
open Go Go.RowKit
set_option maxRecDepth 100000
theorem zp8 (zs:List Int) (a:Int):∀k,(gensF zs a k).1.length=k
 | 0=>rfl
 | k+1=>by simp[gensF,zp8 zs a k]
set_option maxHeartbeats 8000000 in
theorem ze11 (many:Nat) (hmany:many≤20) (v:Value) (zs:List Int) (a:Int) (hs:StrOk zs) (h0:0≤a) (h1:a≤800000000):ACalls Tryz.prog 15 [.p 0 0 0,.c (I (many:Nat))] [strm v zs a] fun u H=>∃(r:List Nt) (c:Nat) (a':Int),r=notesF zs a many∧a'=(gensF zs a many).2.a∧a≤a'∧a'≤a+20*many∧r.length=many∧(∀x∈r,NtB x)∧many≤c∧u = .o 1 0 r.length c∧H = [strm v zs a',.arr 37 10 c (noRs r)]:=by
 refine zf (N:=152) Tryz.func15 rfl rfl (by simp) fun E hE=>?_
 refine WA ?_
 refine WA ?_
 refine WA ?_
 refine ZR ?_
 refine ze rfl (zz1 rfl rfl (by decide)) ?_
 rintro _ _ ⟨rfl,rfl⟩
 refine WE ?_
 refine ZR ?_
 refine ze rfl (zz1 rfl rfl (by decide)) ?_
 rintro _ _ ⟨rfl,rfl⟩
 refine WE ?_
 refine WA ?_
 refine zq (fun m F H=>∃(k cp:Nat) (r:List Nt) (g:NG) (ml nl:List (Nat × List UInt8 × Int)) (mk nk:Nat),m+k=many∧gensF zs a k=(r,g)∧(∀s,(mget ml s).getD 0=g.no s)∧(∀s,(mget nl s).getD 0=g.ly s)∧(∀s,0≤g.no s∧g.no s≤k)∧(∀s,0≤g.ly s∧g.ly s≤k)∧(-1*k≤g.at_∧g.at_≤1000*k)∧(a≤g.a∧g.a≤a+20*k)∧(∀x∈r,NtB x)∧r.length≤cp∧F = [(0,.p 0 0 0),(5,.o 3 0 r.length cp),(6,.c (I g.at_)),(7,.mp 1),(8,.mp 2),(13,.c (I (many:Nat))),(14,.c (I k))]∧H = [strm v zs g.a,mSI ml mk,mSI nl nk,.arr 37 10 cp (noRs r)]) ?_ ?_
 ·refine wkg [some 0,some 1,some 2,none] (fun _=>[(0,.p 0 0 0),(5,.o 3 0 0 0),(6,.c (I 0)),(7,.mp 1),(8,.mp 2),(13,.c (I (many:Nat))),(14,.c (I (0:Nat)))]) (fun _=>[strm v zs a,mSI [] 0,mSI [] 0,.arr 37 10 0 []]) (fun _=>?_)
  exact⟨many,0,0,[],ng0 a,[],[],0,0,by omega,rfl,fun s=>rfl,fun s=>rfl,fun s=>by simp[ng0],fun s=>by simp[ng0],by simp[ng0],by simp[ng0],by simp,Nat.le_refl _,rfl,rfl⟩
 rintro m F H ⟨k,cp,r,g,ml,nl,mk,nk,hmk,hgen,hml,hnl,hno,hly,hat,hga,hr,hcp,rfl,rfl⟩
 have hrl:r.length=k:=by have:=zp8 zs a k;rw[hgen] at this;exact this
 have hgs:gensF zs a (k+1)=(r++[(noteF zs g).1],(noteF zs g).2):=by rw[gensF,hgen]
 refine WA ?_
 refine zl rfl (fun hlt=>?_) (fun hge=>?_)
 ·have hfirst:firstF zs g=firstF zs g:=rfl
  obtain⟨at0,gno,gly,ga⟩:=g
  simp only at hml hnl hno hly hat hga
  refine WR ?_
  refine ze rfl (zp true (fun _=>zY1 [0,1,1,3,10] _ _ _ _ hs (by omega) (by omega) (by simp) (by simp)) rfl .fn rfl (by decide) (by kernel_rfl) rfl rfl (fun _g=>.cons (.p rfl) (.cons (.frz rfl rfl rfl rfl rfl) .nil)) (fun _g=>.cons (.c rfl) (.cons (.c rfl) .nil)) (fun _ _ _ _ ⟨_,hu,hH,_⟩=>by rw[hu,hH];exact⟨.c (.inl trivial),zk (.inr ⟨0,_,rfl,by simp⟩)⟩)) ?_
  rintro F1 H1 ⟨_,_,_,_,⟨da,rfl,hq,hrmda,hvda⟩,hF,hH⟩
  cases hq
  (refine NST hF hH ?_;clear hF hH;rintro rfl rfl)
  have hbda:-1≤da∧da≤1000:=by
   have h:∀r∈([0,1,1,3,10]:List Int),-1≤r∧r≤1000:=by simp
   exact h _ hrmda
  clear hrmda
  refine WE ?_
  refine WR ?_
  refine ze rfl (zp true (fun _=>zh1 [[97],[97],[98]] _ _ _ _ hs (by omega) (by omega) (by simp) (by simp)) rfl .fn rfl (by decide) (by kernel_rfl) rfl rfl (fun _g=>.cons (.p rfl) (.cons (.frz rfl rfl rfl rfl rfl) .nil)) (fun _g=>.cons (.c rfl) (.cons (.c rfl) .nil)) (fun _ _ _ _ ⟨_,hu,hH,_⟩=>by rw[hu,hH];exact⟨.c (.inl trivial),zk (.inr ⟨0,_,rfl,by simp⟩)⟩)) ?_
  rintro F1 H1 ⟨_,_,_,_,⟨st,rfl,hq,hrmst,hvst⟩,hF,hH⟩
  cases hq
  (refine NST hF hH ?_;clear hF hH;rintro rfl rfl)
  have hbst:(st).length≤1:=by
   have h:∀r∈([[97],[97],[98]]:List (List UInt8)),r.length≤1:=by first|(simp;done)|(simp;omega)
   exact h _ hrmst
  clear hrmst
  refine WE ?_
  obtain⟨n0,hn0⟩:∃n0,(mget ml st).getD 0=n0:=⟨_,rfl⟩
  have hn1:=hml st
  rw[hn0] at hn1
  have hnb:=hno st
  refine ZR ?_
  iterate 2 refine WX1 ?_
  refine ZA (zm2 (k:=st) (l:=ml) hn0 rfl rfl rfl rfl) ?_
  refine WX1 ?_
  refine ze rfl (zT2 (k:=st) (l:=ml) (z:=n0+1) rfl rfl rfl rfl rfl rfl) ?_
  rintro _ _ ⟨rfl,rfl⟩
  refine WE ?_
  refine zQ4 (wkg (K:=fun F H=>∃(ml2:List (Nat × List UInt8 × Int)) (mk2:Nat),(∀s,(mget ml2 s).getD 0=updF gno st (n0+1) s)∧F = [(0,.p 0 0 0),(5,.o 3 0 r.length cp),(6,.c (I (at0+da))),(7,.mp 1),(8,.mp 2),(9,.c (T st)),(13,.c (I (many:Nat))),(14,.c (I k))]∧H = [strm v zs (ga+1+1),mSI ml2 mk2,mSI nl nk,.arr 37 10 cp (noRs r)]) [some 0,some 1,some 2,some 3] (fun _=>[(0,.p 0 0 0),(5,.o 3 0 r.length cp),(6,.c (I (at0+da))),(7,.mp 1),(8,.mp 2),(9,.c (T st)),(13,.c (I (many:Nat))),(14,.c (I k))]) (fun _=>[strm v zs (ga+1+1),mSI (mset mk st (n0+1) ml) (mclk mk st ml),mSI nl nk,.arr 37 10 cp (noRs r)]) (fun _=>⟨_,_,fun s=>?_,rfl,rfl⟩)) ?_
  ·rw[zY,updF]
   split
   ·rfl
   ·exact hml s
  rintro F H ⟨ml2,mk2,hml2,rfl,rfl⟩
  have hl2:(mget ml2 st).getD 0=n0+1:=by rw[hml2,updF,if_pos rfl]
  refine ZZ ?_
  refine zE1 (fun F H=>∃(kn:Int) (pr:List UInt8),kn=pickF zs (ga+1+1) [1,2,2,2,2,3,3,4,5,6,6,7]∧pr=someF zs (ga+1+1+1) [[112],[112],[113]]∧(-1≤kn∧kn≤1000)∧pr.length≤1∧F = [(0,.p 0 0 0),(5,.o 3 0 r.length cp),(6,.c (I (at0+da))),(7,.mp 1),(8,.mp 2),(10,.p 4 0 0),(13,.c (I (many:Nat))),(14,.c (I k))]∧H = [strm v zs (ga+1+1+1+1),mSI ml2 mk2,mSI nl nk,.arr 37 10 cp (noRs r),.box [.c (T st),.c (I (n0+1)),.c (I (at0+da)),.c (I kn),.c (T pr),.c (T []),.c (T []),.c (I 0),.c (T []),.c (I 0)]]) ?_ ?_ zV2
  have lk1:=lkfSI (b:=1) (ck:=mk2) hl2
  ·refine ZZ ?_
   refine zz3 [[(0,none),(1,none),(2,none),(3,none),(4,none),(5,none),(8,none),(6,some [0,1,2,3,4,5,8]),(7,some [0,1,2,3,4,8]),(9,some [0,1,2,3,4,5,8]),(10,some [0,1,2,3,4]),(11,none),(12,some [0,1,2,3,4,5,8,11]),(13,some [])],[(0,none),(1,none),(2,none),(3,none),(4,none),(5,none),(8,none),(6,some [0,1,2,3,4,5,8]),(7,some [0,1,2,3,4,8]),(9,some [0,1,2,3,4,5,8]),(12,some [0,1,2,3,4,5,8]),(10,some [0,1,2,3,4]),(11,none),(13,some [])],[(0,none),(1,none),(2,none),(3,none),(4,none),(5,none),(8,none),(6,some [0,1,2,3,4,5,8]),(7,some [0,1,2,3,4,8]),(12,some [0,1,2,3,4,5,8]),(9,some [0,1,2,3,4,5,8]),(10,some [0,1,2,3,4]),(11,none),(13,some [])],[(0,none),(1,none),(2,none),(3,none),(4,none),(5,none),(8,none),(6,some [0,1,2,3,4,5,8]),(9,some [0,1,2,3,4,5,8]),(7,some [0,1,2,3,4,8]),(10,some [0,1,2,3,4]),(11,none),(12,some [0,1,2,3,4,5,8,11]),(13,some [])],[(0,none),(1,none),(2,none),(3,none),(4,none),(5,none),(8,none),(6,some [0,1,2,3,4,5,8]),(9,some [0,1,2,3,4,5,8]),(7,some [0,1,2,3,4,8]),(12,some [0,1,2,3,4,5,8]),(10,some [0,1,2,3,4]),(11,none),(13,some [])],[(0,none),(1,none),(2,none),(3,none),(4,none),(5,none),(8,none),(6,some [0,1,2,3,4,5,8]),(9,some [0,1,2,3,4,5,8]),(12,some [0,1,2,3,4,5,8]),(7,some [0,1,2,3,4,8]),(10,some [0,1,2,3,4]),(11,none),(13,some [])],[(0,none),(1,none),(2,none),(3,none),(4,none),(5,none),(8,none),(6,some [0,1,2,3,4,5,8]),(12,some [0,1,2,3,4,5,8]),(7,some [0,1,2,3,4,8]),(9,some [0,1,2,3,4,5,8]),(10,some [0,1,2,3,4]),(11,none),(13,some [])],[(0,none),(1,none),(2,none),(3,none),(4,none),(5,none),(8,none),(6,some [0,1,2,3,4,5,8]),(12,some [0,1,2,3,4,5,8]),(9,some [0,1,2,3,4,5,8]),(7,some [0,1,2,3,4,8]),(10,some [0,1,2,3,4]),(11,none),(13,some [])],[(0,none),(1,none),(2,none),(3,none),(4,none),(5,none),(8,none),(9,some [0,1,2,3,4,5,8]),(6,some [0,1,2,3,4,5,8]),(7,some [0,1,2,3,4,8]),(10,some [0,1,2,3,4]),(11,none),(12,some [0,1,2,3,4,5,8,11]),(13,some [])],[(0,none),(1,none),(2,none),(3,none),(4,none),(5,none),(8,none),(9,some [0,1,2,3,4,5,8]),(6,some [0,1,2,3,4,5,8]),(7,some [0,1,2,3,4,8]),(12,some [0,1,2,3,4,5,8]),(10,some [0,1,2,3,4]),(11,none),(13,some [])],[(0,none),(1,none),(2,none),(3,none),(4,none),(5,none),(8,none),(9,some [0,1,2,3,4,5,8]),(6,some [0,1,2,3,4,5,8]),(12,some [0,1,2,3,4,5,8]),(7,some [0,1,2,3,4,8]),(10,some [0,1,2,3,4]),(11,none),(13,some [])],[(0,none),(1,none),(2,none),(3,none),(4,none),(5,none),(8,none),(9,some [0,1,2,3,4,5,8]),(12,some [0,1,2,3,4,5,8]),(6,some [0,1,2,3,4,5,8]),(7,some [0,1,2,3,4,8]),(10,some [0,1,2,3,4]),(11,none),(13,some [])],[(0,none),(1,none),(2,none),(3,none),(4,none),(5,none),(8,none),(12,some [0,1,2,3,4,5,8]),(6,some [0,1,2,3,4,5,8]),(7,some [0,1,2,3,4,8]),(9,some [0,1,2,3,4,5,8]),(10,some [0,1,2,3,4]),(11,none),(13,some [])],[(0,none),(1,none),(2,none),(3,none),(4,none),(5,none),(8,none),(12,some [0,1,2,3,4,5,8]),(6,some [0,1,2,3,4,5,8]),(9,some [0,1,2,3,4,5,8]),(7,some [0,1,2,3,4,8]),(10,some [0,1,2,3,4]),(11,none),(13,some [])],[(0,none),(1,none),(2,none),(3,none),(4,none),(5,none),(8,none),(12,some [0,1,2,3,4,5,8]),(9,some [0,1,2,3,4,5,8]),(6,some [0,1,2,3,4,5,8]),(7,some [0,1,2,3,4,8]),(10,some [0,1,2,3,4]),(11,none),(13,some [])]] zn (by kernel_rfl) ?_
   focus
    iterate 3 refine WX3 ?_
    refine ZM (i:=3) (by rfl) (by rfl) rfl (zm2 (k:=st) (l:=ml2) hl2 rfl rfl rfl rfl) ?_
    refine WM ?_
    refine zH10 (by rfl) (by rfl) (by rfl) (by rfl) ?_ ?_ ?_
    rotate_left 2
    refine WM ?_
    refine zp2 (by rfl) (by rfl) (by rfl) ?_ ?_
    rotate_left
    refine WM ?_
    refine zV (i:=7) (by rfl) (by rfl) rfl rfl (zp true (fun _=>zY1 [1,2,2,2,2,3,3,4,5,6,6,7] _ _ _ _ hs (by omega) (by omega) (by simp) (by simp)) rfl .fn rfl (by decide) (by kernel_rfl) rfl rfl (fun _g=>.cons (.p rfl) (.cons (.frz rfl rfl rfl rfl rfl) .nil)) (fun _g=>.cons (.c rfl) (.cons (.c rfl) .nil)) (fun _ _ _ _ ⟨_,hu,hH,_⟩=>by rw[hu,hH];exact⟨.c (.inl trivial),zk (.inr ⟨0,_,rfl,by simp⟩)⟩)) ?_
    rintro F1 H1 ⟨_,_,_,_,⟨kn,rfl,hq,hrmkn,hvkn⟩,hF,hH⟩
    cases hq
    (refine NST hF hH ?_;clear hF hH;rintro rfl rfl)
    have hbkn:-1≤kn∧kn≤1000:=by
     have h:∀r∈([1,2,2,2,2,3,3,4,5,6,6,7]:List Int),-1≤r∧r≤1000:=by simp
     exact h _ hrmkn
    clear hrmkn
    refine⟨AGX, ?_⟩
    refine zV (i:=10) (by rfl) (by rfl) rfl rfl (zp true (fun _=>zh1 [[112],[112],[113]] _ _ _ _ hs (by omega) (by omega) (by simp) (by simp)) rfl .fn rfl (by decide) (by kernel_rfl) rfl rfl (fun _g=>.cons (.p rfl) (.cons (.frz rfl rfl rfl rfl rfl) .nil)) (fun _g=>.cons (.c rfl) (.cons (.c rfl) .nil)) (fun _ _ _ _ ⟨_,hu,hH,_⟩=>by rw[hu,hH];exact⟨.c (.inl trivial),zk (.inr ⟨0,_,rfl,by simp⟩)⟩)) ?_
    rintro F1 H1 ⟨_,_,_,_,⟨pr,rfl,hq,hrmpr,hvpr⟩,hF,hH⟩
    cases hq
    (refine NST hF hH ?_;clear hF hH;rintro rfl rfl)
    have hbpr:(pr).length≤1:=by
     have h:∀r∈([[112],[112],[113]]:List (List UInt8)),r.length≤1:=by first|(simp;done)|(simp;omega)
     exact h _ hrmpr
    clear hrmpr
    refine⟨AGX, ?_⟩
    refine WN ?_
    rotate_right
    refine WM ?_
    refine zp2 (by rfl) (by rfl) (by rfl) ?_ ?_
    rotate_left
    refine WM ?_
    refine zV (i:=7) (by rfl) (by rfl) rfl rfl (zp true (fun _=>zY1 [1,2,2,2,2,3,3,4,5,6,6,7] _ _ _ _ hs (by omega) (by omega) (by simp) (by simp)) rfl .fn rfl (by decide) (by kernel_rfl) rfl rfl (fun _g=>.cons (.p rfl) (.cons (.frz rfl rfl rfl rfl rfl) .nil)) (fun _g=>.cons (.c rfl) (.cons (.c rfl) .nil)) (fun _ _ _ _ ⟨_,hu,hH,_⟩=>by rw[hu,hH];exact⟨.c (.inl trivial),zk (.inr ⟨0,_,rfl,by simp⟩)⟩)) ?_
    rintro F1 H1 ⟨_,_,_,_,⟨kn,rfl,hq,hrmkn,hvkn⟩,hF,hH⟩
    cases hq
    (refine NST hF hH ?_;clear hF hH;rintro rfl rfl)
    have hbkn:-1≤kn∧kn≤1000:=by
     have h:∀r∈([1,2,2,2,2,3,3,4,5,6,6,7]:List Int),-1≤r∧r≤1000:=by simp
     exact h _ hrmkn
    clear hrmkn
    refine⟨AGX, ?_⟩
    refine zV (i:=10) (by rfl) (by rfl) rfl rfl (zp true (fun _=>zh1 [[112],[112],[113]] _ _ _ _ hs (by omega) (by omega) (by simp) (by simp)) rfl .fn rfl (by decide) (by kernel_rfl) rfl rfl (fun _g=>.cons (.p rfl) (.cons (.frz rfl rfl rfl rfl rfl) .nil)) (fun _g=>.cons (.c rfl) (.cons (.c rfl) .nil)) (fun _ _ _ _ ⟨_,hu,hH,_⟩=>by rw[hu,hH];exact⟨.c (.inl trivial),zk (.inr ⟨0,_,rfl,by simp⟩)⟩)) ?_
    rintro F1 H1 ⟨_,_,_,_,⟨pr,rfl,hq,hrmpr,hvpr⟩,hF,hH⟩
    cases hq
    (refine NST hF hH ?_;clear hF hH;rintro rfl rfl)
    have hbpr:(pr).length≤1:=by
     have h:∀r∈([[112],[112],[113]]:List (List UInt8)),r.length≤1:=by first|(simp;done)|(simp;omega)
     exact h _ hrmpr
    clear hrmpr
    refine⟨AGX, ?_⟩
    refine WN ?_
    rotate_right
    refine zV (i:=7) (by rfl) (by rfl) rfl rfl (zp true (fun _=>zY1 [1,2,2,2,2,3,3,4,5,6,6,7] _ _ _ _ hs (by omega) (by omega) (by simp) (by simp)) rfl .fn rfl (by decide) (by kernel_rfl) rfl rfl (fun _g=>.cons (.p rfl) (.cons (.frz rfl rfl rfl rfl rfl) .nil)) (fun _g=>.cons (.c rfl) (.cons (.c rfl) .nil)) (fun _ _ _ _ ⟨_,hu,hH,_⟩=>by rw[hu,hH];exact⟨.c (.inl trivial),zk (.inr ⟨0,_,rfl,by simp⟩)⟩)) ?_
    rintro F1 H1 ⟨_,_,_,_,⟨kn,rfl,hq,hrmkn,hvkn⟩,hF,hH⟩
    cases hq
    (refine NST hF hH ?_;clear hF hH;rintro rfl rfl)
    have hbkn:-1≤kn∧kn≤1000:=by
     have h:∀r∈([1,2,2,2,2,3,3,4,5,6,6,7]:List Int),-1≤r∧r≤1000:=by simp
     exact h _ hrmkn
    clear hrmkn
    refine⟨AGX, ?_⟩
    refine WM ?_
    refine zV (i:=10) (by rfl) (by rfl) rfl rfl (zp true (fun _=>zh1 [[112],[112],[113]] _ _ _ _ hs (by omega) (by omega) (by simp) (by simp)) rfl .fn rfl (by decide) (by kernel_rfl) rfl rfl (fun _g=>.cons (.p rfl) (.cons (.frz rfl rfl rfl rfl rfl) .nil)) (fun _g=>.cons (.c rfl) (.cons (.c rfl) .nil)) (fun _ _ _ _ ⟨_,hu,hH,_⟩=>by rw[hu,hH];exact⟨.c (.inl trivial),zk (.inr ⟨0,_,rfl,by simp⟩)⟩)) ?_
    rintro F1 H1 ⟨_,_,_,_,⟨pr,rfl,hq,hrmpr,hvpr⟩,hF,hH⟩
    cases hq
    (refine NST hF hH ?_;clear hF hH;rintro rfl rfl)
    have hbpr:(pr).length≤1:=by
     have h:∀r∈([[112],[112],[113]]:List (List UInt8)),r.length≤1:=by first|(simp;done)|(simp;omega)
     exact h _ hrmpr
    clear hrmpr
    refine⟨AGX, ?_⟩
    refine WN ?_
    rotate_right
    refine WM ?_
    refine zp2 (by rfl) (by rfl) (by rfl) ?_ ?_
    rotate_left
    refine WM ?_
    refine zV (i:=7) (by rfl) (by rfl) rfl rfl (zp true (fun _=>zY1 [1,2,2,2,2,3,3,4,5,6,6,7] _ _ _ _ hs (by omega) (by omega) (by simp) (by simp)) rfl .fn rfl (by decide) (by kernel_rfl) rfl rfl (fun _g=>.cons (.p rfl) (.cons (.frz rfl rfl rfl rfl rfl) .nil)) (fun _g=>.cons (.c rfl) (.cons (.c rfl) .nil)) (fun _ _ _ _ ⟨_,hu,hH,_⟩=>by rw[hu,hH];exact⟨.c (.inl trivial),zk (.inr ⟨0,_,rfl,by simp⟩)⟩)) ?_
    rintro F1 H1 ⟨_,_,_,_,⟨kn,rfl,hq,hrmkn,hvkn⟩,hF,hH⟩
    cases hq
    (refine NST hF hH ?_;clear hF hH;rintro rfl rfl)
    have hbkn:-1≤kn∧kn≤1000:=by
     have h:∀r∈([1,2,2,2,2,3,3,4,5,6,6,7]:List Int),-1≤r∧r≤1000:=by simp
     exact h _ hrmkn
    clear hrmkn
    refine⟨AGX, ?_⟩
    refine zV (i:=10) (by rfl) (by rfl) rfl rfl (zp true (fun _=>zh1 [[112],[112],[113]] _ _ _ _ hs (by omega) (by omega) (by simp) (by simp)) rfl .fn rfl (by decide) (by kernel_rfl) rfl rfl (fun _g=>.cons (.p rfl) (.cons (.frz rfl rfl rfl rfl rfl) .nil)) (fun _g=>.cons (.c rfl) (.cons (.c rfl) .nil)) (fun _ _ _ _ ⟨_,hu,hH,_⟩=>by rw[hu,hH];exact⟨.c (.inl trivial),zk (.inr ⟨0,_,rfl,by simp⟩)⟩)) ?_
    rintro F1 H1 ⟨_,_,_,_,⟨pr,rfl,hq,hrmpr,hvpr⟩,hF,hH⟩
    cases hq
    (refine NST hF hH ?_;clear hF hH;rintro rfl rfl)
    have hbpr:(pr).length≤1:=by
     have h:∀r∈([[112],[112],[113]]:List (List UInt8)),r.length≤1:=by first|(simp;done)|(simp;omega)
     exact h _ hrmpr
    clear hrmpr
    refine⟨AGX, ?_⟩
    refine WN ?_
    rotate_right
    refine WM ?_
    refine zp2 (by rfl) (by rfl) (by rfl) ?_ ?_
    rotate_left
    refine WM ?_
    refine zV (i:=7) (by rfl) (by rfl) rfl rfl (zp true (fun _=>zY1 [1,2,2,2,2,3,3,4,5,6,6,7] _ _ _ _ hs (by omega) (by omega) (by simp) (by simp)) rfl .fn rfl (by decide) (by kernel_rfl) rfl rfl (fun _g=>.cons (.p rfl) (.cons (.frz rfl rfl rfl rfl rfl) .nil)) (fun _g=>.cons (.c rfl) (.cons (.c rfl) .nil)) (fun _ _ _ _ ⟨_,hu,hH,_⟩=>by rw[hu,hH];exact⟨.c (.inl trivial),zk (.inr ⟨0,_,rfl,by simp⟩)⟩)) ?_
    rintro F1 H1 ⟨_,_,_,_,⟨kn,rfl,hq,hrmkn,hvkn⟩,hF,hH⟩
    cases hq
    (refine NST hF hH ?_;clear hF hH;rintro rfl rfl)
    have hbkn:-1≤kn∧kn≤1000:=by
     have h:∀r∈([1,2,2,2,2,3,3,4,5,6,6,7]:List Int),-1≤r∧r≤1000:=by simp
     exact h _ hrmkn
    clear hrmkn
    refine⟨AGX, ?_⟩
    refine zV (i:=10) (by rfl) (by rfl) rfl rfl (zp true (fun _=>zh1 [[112],[112],[113]] _ _ _ _ hs (by omega) (by omega) (by simp) (by simp)) rfl .fn rfl (by decide) (by kernel_rfl) rfl rfl (fun _g=>.cons (.p rfl) (.cons (.frz rfl rfl rfl rfl rfl) .nil)) (fun _g=>.cons (.c rfl) (.cons (.c rfl) .nil)) (fun _ _ _ _ ⟨_,hu,hH,_⟩=>by rw[hu,hH];exact⟨.c (.inl trivial),zk (.inr ⟨0,_,rfl,by simp⟩)⟩)) ?_
    rintro F1 H1 ⟨_,_,_,_,⟨pr,rfl,hq,hrmpr,hvpr⟩,hF,hH⟩
    cases hq
    (refine NST hF hH ?_;clear hF hH;rintro rfl rfl)
    have hbpr:(pr).length≤1:=by
     have h:∀r∈([[112],[112],[113]]:List (List UInt8)),r.length≤1:=by first|(simp;done)|(simp;omega)
     exact h _ hrmpr
    clear hrmpr
    refine⟨AGX, ?_⟩
    refine WN ?_
    rotate_right
    refine zV (i:=7) (by rfl) (by rfl) rfl rfl (zp true (fun _=>zY1 [1,2,2,2,2,3,3,4,5,6,6,7] _ _ _ _ hs (by omega) (by omega) (by simp) (by simp)) rfl .fn rfl (by decide) (by kernel_rfl) rfl rfl (fun _g=>.cons (.p rfl) (.cons (.frz rfl rfl rfl rfl rfl) .nil)) (fun _g=>.cons (.c rfl) (.cons (.c rfl) .nil)) (fun _ _ _ _ ⟨_,hu,hH,_⟩=>by rw[hu,hH];exact⟨.c (.inl trivial),zk (.inr ⟨0,_,rfl,by simp⟩)⟩)) ?_
    rintro F1 H1 ⟨_,_,_,_,⟨kn,rfl,hq,hrmkn,hvkn⟩,hF,hH⟩
    cases hq
    (refine NST hF hH ?_;clear hF hH;rintro rfl rfl)
    have hbkn:-1≤kn∧kn≤1000:=by
     have h:∀r∈([1,2,2,2,2,3,3,4,5,6,6,7]:List Int),-1≤r∧r≤1000:=by simp
     exact h _ hrmkn
    clear hrmkn
    refine⟨AGX, ?_⟩
    refine zp2 (by rfl) (by rfl) (by rfl) ?_ ?_
    rotate_left
    refine WM ?_
    refine zV (i:=10) (by rfl) (by rfl) rfl rfl (zp true (fun _=>zh1 [[112],[112],[113]] _ _ _ _ hs (by omega) (by omega) (by simp) (by simp)) rfl .fn rfl (by decide) (by kernel_rfl) rfl rfl (fun _g=>.cons (.p rfl) (.cons (.frz rfl rfl rfl rfl rfl) .nil)) (fun _g=>.cons (.c rfl) (.cons (.c rfl) .nil)) (fun _ _ _ _ ⟨_,hu,hH,_⟩=>by rw[hu,hH];exact⟨.c (.inl trivial),zk (.inr ⟨0,_,rfl,by simp⟩)⟩)) ?_
    rintro F1 H1 ⟨_,_,_,_,⟨pr,rfl,hq,hrmpr,hvpr⟩,hF,hH⟩
    cases hq
    (refine NST hF hH ?_;clear hF hH;rintro rfl rfl)
    have hbpr:(pr).length≤1:=by
     have h:∀r∈([[112],[112],[113]]:List (List UInt8)),r.length≤1:=by first|(simp;done)|(simp;omega)
     exact h _ hrmpr
    clear hrmpr
    refine⟨AGX, ?_⟩
    refine WN ?_
    rotate_right
    refine zV (i:=10) (by rfl) (by rfl) rfl rfl (zp true (fun _=>zh1 [[112],[112],[113]] _ _ _ _ hs (by omega) (by omega) (by simp) (by simp)) rfl .fn rfl (by decide) (by kernel_rfl) rfl rfl (fun _g=>.cons (.p rfl) (.cons (.frz rfl rfl rfl rfl rfl) .nil)) (fun _g=>.cons (.c rfl) (.cons (.c rfl) .nil)) (fun _ _ _ _ ⟨_,hu,hH,_⟩=>by rw[hu,hH];exact⟨.c (.inl trivial),zk (.inr ⟨0,_,rfl,by simp⟩)⟩)) ?_
    rintro F1 H1 ⟨_,_,_,_,⟨pr,rfl,hq,hrmpr,hvpr⟩,hF,hH⟩
    cases hq
    (refine NST hF hH ?_;clear hF hH;rintro rfl rfl)
    have hbpr:(pr).length≤1:=by
     have h:∀r∈([[112],[112],[113]]:List (List UInt8)),r.length≤1:=by first|(simp;done)|(simp;omega)
     exact h _ hrmpr
    clear hrmpr
    refine⟨AGX, ?_⟩
    refine WN ?_
    rotate_right
    refine WM ?_
    refine zH10 (by rfl) (by rfl) (by rfl) (by rfl) ?_ ?_ ?_
    rotate_left 2
    refine WM ?_
    refine zp2 (by rfl) (by rfl) (by rfl) ?_ ?_
    rotate_left
    refine WM ?_
    refine zV (i:=7) (by rfl) (by rfl) rfl rfl (zp true (fun _=>zY1 [1,2,2,2,2,3,3,4,5,6,6,7] _ _ _ _ hs (by omega) (by omega) (by simp) (by simp)) rfl .fn rfl (by decide) (by kernel_rfl) rfl rfl (fun _g=>.cons (.p rfl) (.cons (.frz rfl rfl rfl rfl rfl) .nil)) (fun _g=>.cons (.c rfl) (.cons (.c rfl) .nil)) (fun _ _ _ _ ⟨_,hu,hH,_⟩=>by rw[hu,hH];exact⟨.c (.inl trivial),zk (.inr ⟨0,_,rfl,by simp⟩)⟩)) ?_
    rintro F1 H1 ⟨_,_,_,_,⟨kn,rfl,hq,hrmkn,hvkn⟩,hF,hH⟩
    cases hq
    (refine NST hF hH ?_;clear hF hH;rintro rfl rfl)
    have hbkn:-1≤kn∧kn≤1000:=by
     have h:∀r∈([1,2,2,2,2,3,3,4,5,6,6,7]:List Int),-1≤r∧r≤1000:=by simp
     exact h _ hrmkn
    clear hrmkn
    refine⟨AGX, ?_⟩
    refine zV (i:=10) (by rfl) (by rfl) rfl rfl (zp true (fun _=>zh1 [[112],[112],[113]] _ _ _ _ hs (by omega) (by omega) (by simp) (by simp)) rfl .fn rfl (by decide) (by kernel_rfl) rfl rfl (fun _g=>.cons (.p rfl) (.cons (.frz rfl rfl rfl rfl rfl) .nil)) (fun _g=>.cons (.c rfl) (.cons (.c rfl) .nil)) (fun _ _ _ _ ⟨_,hu,hH,_⟩=>by rw[hu,hH];exact⟨.c (.inl trivial),zk (.inr ⟨0,_,rfl,by simp⟩)⟩)) ?_
    rintro F1 H1 ⟨_,_,_,_,⟨pr,rfl,hq,hrmpr,hvpr⟩,hF,hH⟩
    cases hq
    (refine NST hF hH ?_;clear hF hH;rintro rfl rfl)
    have hbpr:(pr).length≤1:=by
     have h:∀r∈([[112],[112],[113]]:List (List UInt8)),r.length≤1:=by first|(simp;done)|(simp;omega)
     exact h _ hrmpr
    clear hrmpr
    refine⟨AGX, ?_⟩
    refine WN ?_
    rotate_right
    refine zV (i:=7) (by rfl) (by rfl) rfl rfl (zp true (fun _=>zY1 [1,2,2,2,2,3,3,4,5,6,6,7] _ _ _ _ hs (by omega) (by omega) (by simp) (by simp)) rfl .fn rfl (by decide) (by kernel_rfl) rfl rfl (fun _g=>.cons (.p rfl) (.cons (.frz rfl rfl rfl rfl rfl) .nil)) (fun _g=>.cons (.c rfl) (.cons (.c rfl) .nil)) (fun _ _ _ _ ⟨_,hu,hH,_⟩=>by rw[hu,hH];exact⟨.c (.inl trivial),zk (.inr ⟨0,_,rfl,by simp⟩)⟩)) ?_
    rintro F1 H1 ⟨_,_,_,_,⟨kn,rfl,hq,hrmkn,hvkn⟩,hF,hH⟩
    cases hq
    (refine NST hF hH ?_;clear hF hH;rintro rfl rfl)
    have hbkn:-1≤kn∧kn≤1000:=by
     have h:∀r∈([1,2,2,2,2,3,3,4,5,6,6,7]:List Int),-1≤r∧r≤1000:=by simp
     exact h _ hrmkn
    clear hrmkn
    refine⟨AGX, ?_⟩
    refine WM ?_
    refine zV (i:=10) (by rfl) (by rfl) rfl rfl (zp true (fun _=>zh1 [[112],[112],[113]] _ _ _ _ hs (by omega) (by omega) (by simp) (by simp)) rfl .fn rfl (by decide) (by kernel_rfl) rfl rfl (fun _g=>.cons (.p rfl) (.cons (.frz rfl rfl rfl rfl rfl) .nil)) (fun _g=>.cons (.c rfl) (.cons (.c rfl) .nil)) (fun _ _ _ _ ⟨_,hu,hH,_⟩=>by rw[hu,hH];exact⟨.c (.inl trivial),zk (.inr ⟨0,_,rfl,by simp⟩)⟩)) ?_
    rintro F1 H1 ⟨_,_,_,_,⟨pr,rfl,hq,hrmpr,hvpr⟩,hF,hH⟩
    cases hq
    (refine NST hF hH ?_;clear hF hH;rintro rfl rfl)
    have hbpr:(pr).length≤1:=by
     have h:∀r∈([[112],[112],[113]]:List (List UInt8)),r.length≤1:=by first|(simp;done)|(simp;omega)
     exact h _ hrmpr
    clear hrmpr
    refine⟨AGX, ?_⟩
    refine WN ?_
    rotate_right
    refine WM ?_
    refine zp2 (by rfl) (by rfl) (by rfl) ?_ ?_
    rotate_left
    refine WM ?_
    refine zV (i:=7) (by rfl) (by rfl) rfl rfl (zp true (fun _=>zY1 [1,2,2,2,2,3,3,4,5,6,6,7] _ _ _ _ hs (by omega) (by omega) (by simp) (by simp)) rfl .fn rfl (by decide) (by kernel_rfl) rfl rfl (fun _g=>.cons (.p rfl) (.cons (.frz rfl rfl rfl rfl rfl) .nil)) (fun _g=>.cons (.c rfl) (.cons (.c rfl) .nil)) (fun _ _ _ _ ⟨_,hu,hH,_⟩=>by rw[hu,hH];exact⟨.c (.inl trivial),zk (.inr ⟨0,_,rfl,by simp⟩)⟩)) ?_
    rintro F1 H1 ⟨_,_,_,_,⟨kn,rfl,hq,hrmkn,hvkn⟩,hF,hH⟩
    cases hq
    (refine NST hF hH ?_;clear hF hH;rintro rfl rfl)
    have hbkn:-1≤kn∧kn≤1000:=by
     have h:∀r∈([1,2,2,2,2,3,3,4,5,6,6,7]:List Int),-1≤r∧r≤1000:=by simp
     exact h _ hrmkn
    clear hrmkn
    refine⟨AGX, ?_⟩
    refine zV (i:=10) (by rfl) (by rfl) rfl rfl (zp true (fun _=>zh1 [[112],[112],[113]] _ _ _ _ hs (by omega) (by omega) (by simp) (by simp)) rfl .fn rfl (by decide) (by kernel_rfl) rfl rfl (fun _g=>.cons (.p rfl) (.cons (.frz rfl rfl rfl rfl rfl) .nil)) (fun _g=>.cons (.c rfl) (.cons (.c rfl) .nil)) (fun _ _ _ _ ⟨_,hu,hH,_⟩=>by rw[hu,hH];exact⟨.c (.inl trivial),zk (.inr ⟨0,_,rfl,by simp⟩)⟩)) ?_
    rintro F1 H1 ⟨_,_,_,_,⟨pr,rfl,hq,hrmpr,hvpr⟩,hF,hH⟩
    cases hq
    (refine NST hF hH ?_;clear hF hH;rintro rfl rfl)
    have hbpr:(pr).length≤1:=by
     have h:∀r∈([[112],[112],[113]]:List (List UInt8)),r.length≤1:=by first|(simp;done)|(simp;omega)
     exact h _ hrmpr
    clear hrmpr
    refine⟨AGX, ?_⟩
    refine WN ?_
    rotate_right
    refine zV (i:=7) (by rfl) (by rfl) rfl rfl (zp true (fun _=>zY1 [1,2,2,2,2,3,3,4,5,6,6,7] _ _ _ _ hs (by omega) (by omega) (by simp) (by simp)) rfl .fn rfl (by decide) (by kernel_rfl) rfl rfl (fun _g=>.cons (.p rfl) (.cons (.frz rfl rfl rfl rfl rfl) .nil)) (fun _g=>.cons (.c rfl) (.cons (.c rfl) .nil)) (fun _ _ _ _ ⟨_,hu,hH,_⟩=>by rw[hu,hH];exact⟨.c (.inl trivial),zk (.inr ⟨0,_,rfl,by simp⟩)⟩)) ?_
    rintro F1 H1 ⟨_,_,_,_,⟨kn,rfl,hq,hrmkn,hvkn⟩,hF,hH⟩
    cases hq
    (refine NST hF hH ?_;clear hF hH;rintro rfl rfl)
    have hbkn:-1≤kn∧kn≤1000:=by
     have h:∀r∈([1,2,2,2,2,3,3,4,5,6,6,7]:List Int),-1≤r∧r≤1000:=by simp
     exact h _ hrmkn
    clear hrmkn
    refine⟨AGX, ?_⟩
    refine zp2 (by rfl) (by rfl) (by rfl) ?_ ?_
    rotate_left
    refine WM ?_
    refine zV (i:=10) (by rfl) (by rfl) rfl rfl (zp true (fun _=>zh1 [[112],[112],[113]] _ _ _ _ hs (by omega) (by omega) (by simp) (by simp)) rfl .fn rfl (by decide) (by kernel_rfl) rfl rfl (fun _g=>.cons (.p rfl) (.cons (.frz rfl rfl rfl rfl rfl) .nil)) (fun _g=>.cons (.c rfl) (.cons (.c rfl) .nil)) (fun _ _ _ _ ⟨_,hu,hH,_⟩=>by rw[hu,hH];exact⟨.c (.inl trivial),zk (.inr ⟨0,_,rfl,by simp⟩)⟩)) ?_
    rintro F1 H1 ⟨_,_,_,_,⟨pr,rfl,hq,hrmpr,hvpr⟩,hF,hH⟩
    cases hq
    (refine NST hF hH ?_;clear hF hH;rintro rfl rfl)
    have hbpr:(pr).length≤1:=by
     have h:∀r∈([[112],[112],[113]]:List (List UInt8)),r.length≤1:=by first|(simp;done)|(simp;omega)
     exact h _ hrmpr
    clear hrmpr
    refine⟨AGX, ?_⟩
    refine WN ?_
    rotate_right
    refine zV (i:=10) (by rfl) (by rfl) rfl rfl (zp true (fun _=>zh1 [[112],[112],[113]] _ _ _ _ hs (by omega) (by omega) (by simp) (by simp)) rfl .fn rfl (by decide) (by kernel_rfl) rfl rfl (fun _g=>.cons (.p rfl) (.cons (.frz rfl rfl rfl rfl rfl) .nil)) (fun _g=>.cons (.c rfl) (.cons (.c rfl) .nil)) (fun _ _ _ _ ⟨_,hu,hH,_⟩=>by rw[hu,hH];exact⟨.c (.inl trivial),zk (.inr ⟨0,_,rfl,by simp⟩)⟩)) ?_
    rintro F1 H1 ⟨_,_,_,_,⟨pr,rfl,hq,hrmpr,hvpr⟩,hF,hH⟩
    cases hq
    (refine NST hF hH ?_;clear hF hH;rintro rfl rfl)
    have hbpr:(pr).length≤1:=by
     have h:∀r∈([[112],[112],[113]]:List (List UInt8)),r.length≤1:=by first|(simp;done)|(simp;omega)
     exact h _ hrmpr
    clear hrmpr
    refine⟨AGX, ?_⟩
    refine WN ?_
    rotate_right
    refine zV (i:=7) (by rfl) (by rfl) rfl rfl (zp true (fun _=>zY1 [1,2,2,2,2,3,3,4,5,6,6,7] _ _ _ _ hs (by omega) (by omega) (by simp) (by simp)) rfl .fn rfl (by decide) (by kernel_rfl) rfl rfl (fun _g=>.cons (.p rfl) (.cons (.frz rfl rfl rfl rfl rfl) .nil)) (fun _g=>.cons (.c rfl) (.cons (.c rfl) .nil)) (fun _ _ _ _ ⟨_,hu,hH,_⟩=>by rw[hu,hH];exact⟨.c (.inl trivial),zk (.inr ⟨0,_,rfl,by simp⟩)⟩)) ?_
    rintro F1 H1 ⟨_,_,_,_,⟨kn,rfl,hq,hrmkn,hvkn⟩,hF,hH⟩
    cases hq
    (refine NST hF hH ?_;clear hF hH;rintro rfl rfl)
    have hbkn:-1≤kn∧kn≤1000:=by
     have h:∀r∈([1,2,2,2,2,3,3,4,5,6,6,7]:List Int),-1≤r∧r≤1000:=by simp
     exact h _ hrmkn
    clear hrmkn
    refine⟨AGX, ?_⟩
    refine zp2 (by rfl) (by rfl) (by rfl) ?_ ?_
    rotate_left
    refine WM ?_
    refine zV (i:=10) (by rfl) (by rfl) rfl rfl (zp true (fun _=>zh1 [[112],[112],[113]] _ _ _ _ hs (by omega) (by omega) (by simp) (by simp)) rfl .fn rfl (by decide) (by kernel_rfl) rfl rfl (fun _g=>.cons (.p rfl) (.cons (.frz rfl rfl rfl rfl rfl) .nil)) (fun _g=>.cons (.c rfl) (.cons (.c rfl) .nil)) (fun _ _ _ _ ⟨_,hu,hH,_⟩=>by rw[hu,hH];exact⟨.c (.inl trivial),zk (.inr ⟨0,_,rfl,by simp⟩)⟩)) ?_
    rintro F1 H1 ⟨_,_,_,_,⟨pr,rfl,hq,hrmpr,hvpr⟩,hF,hH⟩
    cases hq
    (refine NST hF hH ?_;clear hF hH;rintro rfl rfl)
    have hbpr:(pr).length≤1:=by
     have h:∀r∈([[112],[112],[113]]:List (List UInt8)),r.length≤1:=by first|(simp;done)|(simp;omega)
     exact h _ hrmpr
    clear hrmpr
    refine⟨AGX, ?_⟩
    refine WN ?_
    rotate_right
    refine WM ?_
    refine zp2 (by rfl) (by rfl) (by rfl) ?_ ?_
    rotate_left
    refine WM ?_
    refine zV (i:=10) (by rfl) (by rfl) rfl rfl (zp true (fun _=>zh1 [[112],[112],[113]] _ _ _ _ hs (by omega) (by omega) (by simp) (by simp)) rfl .fn rfl (by decide) (by kernel_rfl) rfl rfl (fun _g=>.cons (.p rfl) (.cons (.frz rfl rfl rfl rfl rfl) .nil)) (fun _g=>.cons (.c rfl) (.cons (.c rfl) .nil)) (fun _ _ _ _ ⟨_,hu,hH,_⟩=>by rw[hu,hH];exact⟨.c (.inl trivial),zk (.inr ⟨0,_,rfl,by simp⟩)⟩)) ?_
    rintro F1 H1 ⟨_,_,_,_,⟨pr,rfl,hq,hrmpr,hvpr⟩,hF,hH⟩
    cases hq
    (refine NST hF hH ?_;clear hF hH;rintro rfl rfl)
    have hbpr:(pr).length≤1:=by
     have h:∀r∈([[112],[112],[113]]:List (List UInt8)),r.length≤1:=by first|(simp;done)|(simp;omega)
     exact h _ hrmpr
    clear hrmpr
    refine⟨AGX, ?_⟩
    refine WN ?_
    rotate_right
    refine zV (i:=10) (by rfl) (by rfl) rfl rfl (zp true (fun _=>zh1 [[112],[112],[113]] _ _ _ _ hs (by omega) (by omega) (by simp) (by simp)) rfl .fn rfl (by decide) (by kernel_rfl) rfl rfl (fun _g=>.cons (.p rfl) (.cons (.frz rfl rfl rfl rfl rfl) .nil)) (fun _g=>.cons (.c rfl) (.cons (.c rfl) .nil)) (fun _ _ _ _ ⟨_,hu,hH,_⟩=>by rw[hu,hH];exact⟨.c (.inl trivial),zk (.inr ⟨0,_,rfl,by simp⟩)⟩)) ?_
    rintro F1 H1 ⟨_,_,_,_,⟨pr,rfl,hq,hrmpr,hvpr⟩,hF,hH⟩
    cases hq
    (refine NST hF hH ?_;clear hF hH;rintro rfl rfl)
    have hbpr:(pr).length≤1:=by
     have h:∀r∈([[112],[112],[113]]:List (List UInt8)),r.length≤1:=by first|(simp;done)|(simp;omega)
     exact h _ hrmpr
    clear hrmpr
    refine⟨AGX, ?_⟩
    refine WN ?_
   all_goals first|exact wkg [some 0,some 1,some 2,some 3,some 6] (fun _=>[(0,.p 0 0 0),(5,.o 3 0 r.length cp),(6,.c (I (at0+da))),(7,.mp 1),(8,.mp 2),(10,.p 4 0 0),(13,.c (I (many:Nat))),(14,.c (I k))]) (fun _=>[strm v zs (ga+1+1+1+1),mSI ml2 mk2,mSI nl nk,.arr 37 10 cp (noRs r),.box [.c (T st),.c (I (n0+1)),.c (I (at0+da)),.c (I kn),.c (T pr),.c (T []),.c (T []),.c (I 0),.c (T []),.c (I 0)]]) (fun _=>⟨kn,pr,hvkn,hvpr,hbkn,hbpr,rfl,rfl⟩)|exact wkg [some 0,some 1,some 2,some 3,some 5] (fun _=>[(0,.p 0 0 0),(5,.o 3 0 r.length cp),(6,.c (I (at0+da))),(7,.mp 1),(8,.mp 2),(10,.p 4 0 0),(13,.c (I (many:Nat))),(14,.c (I k))]) (fun _=>[strm v zs (ga+1+1+1+1),mSI ml2 mk2,mSI nl nk,.arr 37 10 cp (noRs r),.box [.c (T st),.c (I (n0+1)),.c (I (at0+da)),.c (I kn),.c (T pr),.c (T []),.c (T []),.c (I 0),.c (T []),.c (I 0)]]) (fun _=>⟨kn,pr,hvkn,hvpr,hbkn,hbpr,rfl,rfl⟩)|exact wkg [some 0,some 1,some 2,some 3,some 4] (fun _=>[(0,.p 0 0 0),(5,.o 3 0 r.length cp),(6,.c (I (at0+da))),(7,.mp 1),(8,.mp 2),(10,.p 4 0 0),(13,.c (I (many:Nat))),(14,.c (I k))]) (fun _=>[strm v zs (ga+1+1+1+1),mSI ml2 mk2,mSI nl nk,.arr 37 10 cp (noRs r),.box [.c (T st),.c (I (n0+1)),.c (I (at0+da)),.c (I kn),.c (T pr),.c (T []),.c (T []),.c (I 0),.c (T []),.c (I 0)]]) (fun _=>⟨kn,pr,hvkn,hvpr,hbkn,hbpr,rfl,rfl⟩)
  rintro F H ⟨kn,pr,hkd,hpr,hkdb,hprb,rfl,rfl⟩
  refine ZZ ?_
  generalize hat1:at0+da=at1 at *
  generalize hno1:n0+1=no at *
  generalize ha4:ga+1+1+1+1=a4 at *
  have hfi:firstF zs ⟨at0,gno,gly,ga⟩=⟨st,no,at1,kn,pr,[],[],0,[],0⟩:=by unfold firstF;simp only;rw[←hvst,←hvda,←hkd,←hpr,←hn1,hat1,hno1]
  have hb1:NtB ⟨st,no,at1,kn,pr,[],[],0,[],0⟩:=⟨hbst,hprb,by simp,by simp,by simp,by simp only;omega,by simp only;omega,by simp only;omega,by simp,by simp⟩
  have hnf:noteF zs ⟨at0,gno,gly,ga⟩=((oddNF zs (kindF zs ⟨st,no,at1,kn,pr,[],[],0,[],0⟩ gly a4).1 (kindF zs ⟨st,no,at1,kn,pr,[],[],0,[],0⟩ gly a4).2.2).1,⟨at1,updF gno st no,(kindF zs ⟨st,no,at1,kn,pr,[],[],0,[],0⟩ gly a4).2.1,(oddNF zs (kindF zs ⟨st,no,at1,kn,pr,[],[],0,[],0⟩ gly a4).1 (kindF zs ⟨st,no,at1,kn,pr,[],[],0,[],0⟩ gly a4).2.2).2⟩):=by
   rw[noteF,hfi]
   simp only
   rw[←hvda,hat1,ha4,←hn1,hno1]
  have ha4b:a≤a4∧a4≤a+20*k+4:=by omega
  refine WR ?_
  refine zI10 ?_
  refine zk13 ?_
  refine zE1 (fun F H=>∃(y:Nt) (ly2:List UInt8→Int) (a5:Int) (nl2:List (Nat × List UInt8 × Int)) (nk2:Nat),kindF zs ⟨st,no,at1,kn,pr,[],[],0,[],0⟩ gly a4=(y,ly2,a5)∧NtB y∧(∀s,(mget nl2 s).getD 0=ly2 s)∧(∀s,0≤ly2 s∧ly2 s≤(k+1:Nat))∧a4≤a5∧a5≤a4+3∧F = [(0,.p 0 0 0),(5,.o 3 0 r.length cp),(6,.c (I at1)),(7,.mp 1),(8,.mp 2),(10,.p 4 0 0),(13,.c (I (many:Nat))),(14,.c (I k))]∧H = [strm v zs a5,mSI ml2 mk2,mSI nl2 nk2,.arr 37 10 cp (noRs r),.box ((noR y).map .c)]) ?_ ?_ zV2
  ·refine WA ?_
   refine zl rfl (fun g1=>?_) (fun g1=>?_)
   ·subst g1
    refine WR ?_
    refine ze rfl (zp true (fun _=>zh1 [[106],[107],[108],[109]] _ _ _ _ hs (by omega) (by omega) (by simp) (by simp)) rfl .fn rfl (by decide) (by kernel_rfl) rfl rfl (fun _g=>.cons (.p rfl) (.cons (.frz rfl rfl rfl rfl rfl) .nil)) (fun _g=>.cons (.c rfl) (.cons (.c rfl) .nil)) (fun _ _ _ _ ⟨_,hu,hH,_⟩=>by rw[hu,hH];exact⟨.c (.inl trivial),zk (.inr ⟨0,_,rfl,by simp⟩)⟩)) ?_
    rintro F1 H1 ⟨_,_,_,_,⟨jb,rfl,hq,hrmjb,hvjb⟩,hF,hH⟩
    cases hq
    (refine NST hF hH ?_;clear hF hH;rintro rfl rfl)
    have hbjb:(jb).length≤1:=by
     have h:∀r∈([[106],[107],[108],[109]]:List (List UInt8)),r.length≤1:=by first|(simp;done)|(simp;omega)
     exact h _ hrmjb
    clear hrmjb
    refine WO ?_
    refine ze rfl (zp true (fun _=>zY1 [1,2,2,3] _ _ _ _ hs (by omega) (by omega) (by simp) (by simp)) rfl .fn rfl (by decide) (by kernel_rfl) rfl rfl (fun _g=>.cons (.p rfl) (.cons (.frz rfl rfl rfl rfl rfl) .nil)) (fun _g=>.cons (.c rfl) (.cons (.c rfl) .nil)) (fun _ _ _ _ ⟨_,hu,hH,_⟩=>by rw[hu,hH];exact⟨.c (.inl trivial),zk (.inr ⟨0,_,rfl,by simp⟩)⟩)) ?_
    rintro F1 H1 ⟨_,_,_,_,⟨n,rfl,hq,hrmn,hvn⟩,hF,hH⟩
    cases hq
    (refine NST hF hH ?_;clear hF hH;rintro rfl rfl)
    have hbn:-1≤n∧n≤1000:=by
     have h:∀r∈([1,2,2,3]:List Int),-1≤r∧r≤1000:=by simp
     exact h _ hrmn
    clear hrmn
    refine WE ?_
    refine ZR ?_
    iterate 3 refine WX1 ?_
    refine ze rfl (zT2 (k:=pr) (l:=nl) (z:=0) rfl rfl rfl rfl rfl rfl) ?_
    rintro _ _ ⟨rfl,rfl⟩
    refine WE ?_
    refine wkg [some 0,some 1,some 2,some 3,some 4] (fun _=>[(0,.p 0 0 0),(5,.o 3 0 r.length cp),(6,.c (I at1)),(7,.mp 1),(8,.mp 2),(10,.p 4 0 0),(13,.c (I (many:Nat))),(14,.c (I k))]) (fun _=>[strm v zs (a4+1+1),mSI ml2 mk2,mSI (mset nk pr 0 nl) (mclk nk pr nl),.arr 37 10 cp (noRs r),.box [.c (T st),.c (I no),.c (I at1),.c (I 1),.c (T pr),.c (T jb),.c (T []),.c (I n),.c (T []),.c (I 0)]]) (fun _=>⟨⟨st,no,at1,1,pr,jb,[],n,[],0⟩,updF gly pr 0,(a4+1+1),_,_,by rw[kindF,if_pos rfl,←hvjb,←hvn],⟨hb1.st,hb1.pr,hbjb,hb1.sp,hb1.of_,hb1.no,hb1.at_,hb1.kd,by simp only;omega,hb1.ot⟩, ?_, ?_,by omega,by omega,rfl,rfl⟩)
    ·intro s
     rw[zY,updF]
     split
     ·rfl
     ·exact hnl s
    ·intro s
     have:=hly s
     rw[updF]
     split <;> omega
   refine WA ?_
   refine zl rfl (fun g2=>?_) (fun g2=>?_)
   ·subst g2
    obtain⟨q0,hq0⟩:∃q0,(mget nl pr).getD 0=q0:=⟨_,rfl⟩
    have hq1:=hnl pr
    rw[hq0] at hq1
    have hqb:=hly pr
    have hq2:(mget (mset nk pr (q0+1) nl) pr).getD 0=q0+1:=by rw[zY,if_pos rfl];rfl
    refine ZR ?_
    iterate 3 refine WX1 ?_
    refine ZA (zm2 (k:=pr) (l:=nl) hq0 rfl rfl rfl rfl) ?_
    refine WX1 ?_
    refine ze rfl (zT2 (k:=pr) (l:=nl) (z:=q0+1) rfl rfl rfl rfl rfl rfl) ?_
    rintro _ _ ⟨rfl,rfl⟩
    refine WE ?_
    refine ZR ?_
    iterate 3 refine WX1 ?_
    refine ZA (zm2 (k:=pr) (l:=(mset nk pr (q0+1) nl)) hq2 rfl rfl rfl rfl) ?_
    refine WE ?_
    refine WR ?_
    refine ze rfl (efm (c:=fun _=>zG12 6 _ _ _ hs (by omega) (by omega) (by simp only[in64];omega))) ?_
    rintro F1 H1 ⟨_,_,_,_,⟨bb,rfl,hq,hvbb⟩,hF,hH⟩
    cases hq
    (refine NST hF hH ?_;clear hF hH;rintro rfl rfl)
    refine WE ?_
    refine zj rfl (fun hb=>?_) (fun hb=>?_)
    ·rw[hb] at hvbb
     have hz:=of_decide_eq_true hvbb.symm
     refine WR ?_
     refine ze rfl (efm (c:=fun _=>zW8 1 4 _ _ _ hs (by omega) (by omega) (by omega) (by omega) (by omega) (by omega)) (v:=fun _g=>.cons (.p rfl) (.cons (.c rfl) (.cons (.c rfl) .nil)))) ?_
     rintro F1 H1 ⟨_,_,_,_,⟨n,an,rfl,hq,hx1n,hx2n,hx3n,hx4n,_,hvn⟩,hF,hH⟩
     cases hq
     (refine NST hF hH ?_;clear hF hH;rintro rfl rfl)
     refine WE ?_
     refine wkg [some 0,some 1,some 2,some 3,some 4] (fun _=>[(0,.p 0 0 0),(5,.o 3 0 r.length cp),(6,.c (I at1)),(7,.mp 1),(8,.mp 2),(10,.p 4 0 0),(13,.c (I (many:Nat))),(14,.c (I k))]) (fun _=>[strm v zs an,mSI ml2 mk2,mSI (mset nk pr (q0+1) nl) (mclk nk pr nl),.arr 37 10 cp (noRs r),.box [.c (T st),.c (I no),.c (I at1),.c (I 2),.c (T pr),.c (T []),.c (T []),.c (I n),.c (T []),.c (I 0)]]) (fun _=>⟨⟨st,no,at1,2,pr,[],[],n,[],0⟩,updF gly pr (q0+1),an,_,_,by rw[kindF,if_neg (by simp),if_pos rfl,if_pos hz,←hvn,hq1],⟨hb1.st,hb1.pr,hb1.jb,hb1.sp,hb1.of_,hb1.no,hb1.at_,hb1.kd,by have:=hx4n (by omega);simp only;omega,hb1.ot⟩, ?_, ?_,by omega,by omega,rfl,rfl⟩)
     ·intro s
      rw[zY,updF]
      split
      ·rfl
      ·exact hnl s
     ·intro s
      have:=hly s
      rw[updF]
      split <;> omega
    ·rw[hb] at hvbb
     have hz:=of_decide_eq_false hvbb.symm
     refine ZZ ?_
     refine wkg [some 0,some 1,some 2,some 3,some 4] (fun _=>[(0,.p 0 0 0),(5,.o 3 0 r.length cp),(6,.c (I at1)),(7,.mp 1),(8,.mp 2),(10,.p 4 0 0),(13,.c (I (many:Nat))),(14,.c (I k))]) (fun _=>[strm v zs (a4+1),mSI ml2 mk2,mSI (mset nk pr (q0+1) nl) (mclk nk pr nl),.arr 37 10 cp (noRs r),.box [.c (T st),.c (I no),.c (I at1),.c (I 2),.c (T pr),.c (T []),.c (T []),.c (I (q0+1)),.c (T []),.c (I 0)]]) (fun _=>⟨⟨st,no,at1,2,pr,[],[],(q0+1),[],0⟩,updF gly pr (q0+1),(a4+1),_,_,by rw[kindF,if_neg (by simp),if_pos rfl,if_neg hz,hq1],⟨hb1.st,hb1.pr,hb1.jb,hb1.sp,hb1.of_,hb1.no,hb1.at_,hb1.kd,by simp only;omega,hb1.ot⟩, ?_, ?_,by omega,by omega,rfl,rfl⟩)
     ·intro s
      rw[zY,updF]
      split
      ·rfl
      ·exact hnl s
     ·intro s
      have:=hly s
      rw[updF]
      split <;> omega
   refine WA ?_
   refine zl rfl (fun g5=>?_) (fun g5=>?_)
   ·subst g5
    refine WR ?_
    refine ze rfl (zp true (fun _=>zh1 [[115],[116]] _ _ _ _ hs (by omega) (by omega) (by simp) (by simp)) rfl .fn rfl (by decide) (by kernel_rfl) rfl rfl (fun _g=>.cons (.p rfl) (.cons (.frz rfl rfl rfl rfl rfl) .nil)) (fun _g=>.cons (.c rfl) (.cons (.c rfl) .nil)) (fun _ _ _ _ ⟨_,hu,hH,_⟩=>by rw[hu,hH];exact⟨.c (.inl trivial),zk (.inr ⟨0,_,rfl,by simp⟩)⟩)) ?_
    rintro F1 H1 ⟨_,_,_,_,⟨sp,rfl,hq,hrmsp,hvsp⟩,hF,hH⟩
    cases hq
    (refine NST hF hH ?_;clear hF hH;rintro rfl rfl)
    have hbsp:(sp).length≤1:=by
     have h:∀r∈([[115],[116]]:List (List UInt8)),r.length≤1:=by first|(simp;done)|(simp;omega)
     exact h _ hrmsp
    clear hrmsp
    refine WO ?_
    refine ze rfl (zp true (fun _=>zY1 [100,50] _ _ _ _ hs (by omega) (by omega) (by simp) (by simp)) rfl .fn rfl (by decide) (by kernel_rfl) rfl rfl (fun _g=>.cons (.p rfl) (.cons (.frz rfl rfl rfl rfl rfl) .nil)) (fun _g=>.cons (.c rfl) (.cons (.c rfl) .nil)) (fun _ _ _ _ ⟨_,hu,hH,_⟩=>by rw[hu,hH];exact⟨.c (.inl trivial),zk (.inr ⟨0,_,rfl,by simp⟩)⟩)) ?_
    rintro F1 H1 ⟨_,_,_,_,⟨n,rfl,hq,hrmn,hvn⟩,hF,hH⟩
    cases hq
    (refine NST hF hH ?_;clear hF hH;rintro rfl rfl)
    have hbn:-1≤n∧n≤1000:=by
     have h:∀r∈([100,50]:List Int),-1≤r∧r≤1000:=by simp
     exact h _ hrmn
    clear hrmn
    refine WE ?_
    refine wkg [some 0,some 1,some 2,some 3,some 4] (fun _=>[(0,.p 0 0 0),(5,.o 3 0 r.length cp),(6,.c (I at1)),(7,.mp 1),(8,.mp 2),(10,.p 4 0 0),(13,.c (I (many:Nat))),(14,.c (I k))]) (fun _=>[strm v zs (a4+1+1),mSI ml2 mk2,mSI nl nk,.arr 37 10 cp (noRs r),.box [.c (T st),.c (I no),.c (I at1),.c (I 5),.c (T pr),.c (T []),.c (T sp),.c (I n),.c (T []),.c (I 0)]]) (fun _=>⟨⟨st,no,at1,5,pr,[],sp,n,[],0⟩,gly,(a4+1+1),_,_,by rw[kindF,if_neg (by simp),if_neg (by simp),if_pos rfl,←hvsp,←hvn],⟨hb1.st,hb1.pr,hb1.jb,hbsp,hb1.of_,hb1.no,hb1.at_,hb1.kd,by simp only;omega,hb1.ot⟩, ?_, ?_,by omega,by omega,rfl,rfl⟩)
    ·exact hnl
    ·intro s;have:=hly s;omega
   refine WA ?_
   refine zl rfl (fun g6=>?_) (fun g6=>?_)
   ·subst g6
    refine WR ?_
    refine ze rfl (zp true (fun _=>zY1 [10,30,60] _ _ _ _ hs (by omega) (by omega) (by simp) (by simp)) rfl .fn rfl (by decide) (by kernel_rfl) rfl rfl (fun _g=>.cons (.p rfl) (.cons (.frz rfl rfl rfl rfl rfl) .nil)) (fun _g=>.cons (.c rfl) (.cons (.c rfl) .nil)) (fun _ _ _ _ ⟨_,hu,hH,_⟩=>by rw[hu,hH];exact⟨.c (.inl trivial),zk (.inr ⟨0,_,rfl,by simp⟩)⟩)) ?_
    rintro F1 H1 ⟨_,_,_,_,⟨n,rfl,hq,hrmn,hvn⟩,hF,hH⟩
    cases hq
    (refine NST hF hH ?_;clear hF hH;rintro rfl rfl)
    have hbn:-1≤n∧n≤1000:=by
     have h:∀r∈([10,30,60]:List Int),-1≤r∧r≤1000:=by simp
     exact h _ hrmn
    clear hrmn
    refine WE ?_
    refine wkg [some 0,some 1,some 2,some 3,some 4] (fun _=>[(0,.p 0 0 0),(5,.o 3 0 r.length cp),(6,.c (I at1)),(7,.mp 1),(8,.mp 2),(10,.p 4 0 0),(13,.c (I (many:Nat))),(14,.c (I k))]) (fun _=>[strm v zs (a4+1),mSI ml2 mk2,mSI nl nk,.arr 37 10 cp (noRs r),.box [.c (T st),.c (I no),.c (I at1),.c (I 6),.c (T pr),.c (T []),.c (T []),.c (I n),.c (T []),.c (I 0)]]) (fun _=>⟨⟨st,no,at1,6,pr,[],[],n,[],0⟩,gly,(a4+1),_,_,by rw[kindF,if_neg (by simp),if_neg (by simp),if_neg (by simp),if_pos rfl,←hvn],⟨hb1.st,hb1.pr,hb1.jb,hb1.sp,hb1.of_,hb1.no,hb1.at_,hb1.kd,by simp only;omega,hb1.ot⟩, ?_, ?_,by omega,by omega,rfl,rfl⟩)
    ·exact hnl
    ·intro s;have:=hly s;omega
   refine WA ?_
   refine zl rfl (fun g7=>?_) (fun g7=>?_)
   ·subst g7
    refine WR ?_
    refine ze rfl (zp true (fun _=>zh1 [[97],[98]] _ _ _ _ hs (by omega) (by omega) (by simp) (by simp)) rfl .fn rfl (by decide) (by kernel_rfl) rfl rfl (fun _g=>.cons (.p rfl) (.cons (.frz rfl rfl rfl rfl rfl) .nil)) (fun _g=>.cons (.c rfl) (.cons (.c rfl) .nil)) (fun _ _ _ _ ⟨_,hu,hH,_⟩=>by rw[hu,hH];exact⟨.c (.inl trivial),zk (.inr ⟨0,_,rfl,by simp⟩)⟩)) ?_
    rintro F1 H1 ⟨_,_,_,_,⟨of_,rfl,hq,hrmof_,hvof_⟩,hF,hH⟩
    cases hq
    (refine NST hF hH ?_;clear hF hH;rintro rfl rfl)
    have hbof_:(of_).length≤1:=by
     have h:∀r∈([[97],[98]]:List (List UInt8)),r.length≤1:=by first|(simp;done)|(simp;omega)
     exact h _ hrmof_
    clear hrmof_
    refine WO ?_
    refine ze rfl (efm (c:=fun _=>zW8 1 8 _ _ _ hs (by omega) (by omega) (by omega) (by omega) (by omega) (by omega)) (v:=fun _g=>.cons (.p rfl) (.cons (.c rfl) (.cons (.c rfl) .nil)))) ?_
    rintro F1 H1 ⟨_,_,_,_,⟨ot,aot,rfl,hq,hx1ot,hx2ot,hx3ot,hx4ot,_,hvot⟩,hF,hH⟩
    cases hq
    (refine NST hF hH ?_;clear hF hH;rintro rfl rfl)
    refine WE ?_
    refine wkg [some 0,some 1,some 2,some 3,some 4] (fun _=>[(0,.p 0 0 0),(5,.o 3 0 r.length cp),(6,.c (I at1)),(7,.mp 1),(8,.mp 2),(10,.p 4 0 0),(13,.c (I (many:Nat))),(14,.c (I k))]) (fun _=>[strm v zs aot,mSI ml2 mk2,mSI nl nk,.arr 37 10 cp (noRs r),.box [.c (T st),.c (I no),.c (I at1),.c (I 7),.c (T []),.c (T []),.c (T []),.c (I 0),.c (T of_),.c (I ot)]]) (fun _=>⟨⟨st,no,at1,7,[],[],[],0,of_,ot⟩,gly,aot,_,_,by rw[kindF,if_neg (by simp),if_neg (by simp),if_neg (by simp),if_neg (by simp),if_pos rfl,←hvof_,←hvot],⟨hb1.st,Nat.zero_le _,hb1.jb,hb1.sp,hbof_,hb1.no,hb1.at_,hb1.kd,hb1.n,by have:=hx4ot (by omega);simp only;omega⟩, ?_, ?_,by omega,by omega,rfl,rfl⟩)
    ·exact hnl
    ·intro s;have:=hly s;omega
   refine ZZ ?_
   refine wkg [some 0,some 1,some 2,some 3,some 4] (fun _=>[(0,.p 0 0 0),(5,.o 3 0 r.length cp),(6,.c (I at1)),(7,.mp 1),(8,.mp 2),(10,.p 4 0 0),(13,.c (I (many:Nat))),(14,.c (I k))]) (fun _=>[strm v zs a4,mSI ml2 mk2,mSI nl nk,.arr 37 10 cp (noRs r),.box [.c (T st),.c (I no),.c (I at1),.c (I kn),.c (T pr),.c (T []),.c (T []),.c (I 0),.c (T []),.c (I 0)]]) (fun _=>⟨⟨st,no,at1,kn,pr,[],[],0,[],0⟩,gly,a4,_,_,by rw[kindF,if_neg g1,if_neg g2,if_neg g5,if_neg g6,if_neg g7],hb1, ?_, ?_,by omega,by omega,rfl,rfl⟩)
   ·exact hnl
   ·intro s;have:=hly s;omega
  rintro F H ⟨y,ly2,a5,nl2,nk2,hkf,hby,hnl2,hly2,ha5,ha5b,rfl,rfl⟩
  refine ZZ ?_
  rw[hkf] at hnf
  simp only at hnf
  clear hvda hvst hkd hpr hfi hb1 hkdb
  obtain⟨st2,no2,at_,kn2,pr2,jb,sp,n,of_,ot⟩:=y
  have hbs:st2.length≤1:=hby.st
  have hbp:pr2.length≤1:=hby.pr
  show AW _ _ _ _ _ [strm v zs a5,mSI ml2 mk2,mSI nl2 nk2,.arr 37 10 cp (noRs r),.box [.c (T st2),.c (I no2),.c (I at_),.c (I kn2),.c (T pr2),.c (T jb),.c (T sp),.c (I n),.c (T of_),.c (I ot)]] _
  refine WR ?_
  refine ze rfl (efm (c:=fun _=>zG12 90 _ _ _ hs (by omega) (by omega) (by simp only[in64];omega))) ?_
  rintro F1 H1 ⟨_,_,_,_,⟨bb,rfl,hq,hvbb⟩,hF,hH⟩
  cases hq
  (refine NST hF hH ?_;clear hF hH;rintro rfl rfl)
  refine WE ?_
  refine zE1 (fun F H=>∃(z:Nt) (a6:Int),oddNF zs ⟨st2,no2,at_,kn2,pr2,jb,sp,n,of_,ot⟩ a5=(z,a6)∧NtB z∧a5≤a6∧a6≤a5+10∧F = [(0,.p 0 0 0),(5,.o 3 0 r.length cp),(6,.c (I at1)),(7,.mp 1),(8,.mp 2),(10,.p 4 0 0),(13,.c (I (many:Nat))),(14,.c (I k))]∧H = [strm v zs a6,mSI ml2 mk2,mSI nl2 nk2,.arr 37 10 cp (noRs r),.box ((noR z).map .c)]) ?_ ?_ zV2
  ·refine zj rfl (fun hb=>?_) (fun hb=>?_)
   ·rw[hb] at hvbb
    have hz:=of_decide_eq_true hvbb.symm
    refine WR ?_
    refine ze rfl (efm (c:=fun _=>zd8 _ _ _ _ hs (by omega) (by omega) (by simp only[in64];omega))) ?_
    rintro F1 H1 ⟨_,_,_,_,⟨rq,rfl,hq,hr1,hr2,hrv⟩,hF,hH⟩
    cases hq
    (refine NST hF hH ?_;clear hF hH;rintro rfl rfl)
    refine WE ?_
    refine WA ?_
    refine zl rfl (fun g0=>?_) (fun g0=>?_)
    ·rw[g0] at hrv
     refine WR ?_
     refine ze rfl (zp true (fun _=>zh1 [[],st2] _ _ _ _ hs (by omega) (by omega) (by simp) (by simp)) rfl .fn rfl (by decide) (by kernel_rfl) rfl rfl (fun _g=>.cons (.p rfl) (.cons (.frz rfl rfl rfl rfl rfl) .nil)) (fun _g=>.cons (.c rfl) (.cons (.c rfl) .nil)) (fun _ _ _ _ ⟨_,hu,hH,_⟩=>by rw[hu,hH];exact⟨.c (.inl trivial),zk (.inr ⟨0,_,rfl,by simp⟩)⟩)) ?_
     rintro F1 H1 ⟨_,_,_,_,⟨sr,rfl,hq,hrmsr,hvsr⟩,hF,hH⟩
     cases hq
     (refine NST hF hH ?_;clear hF hH;rintro rfl rfl)
     have hbsr:(sr).length≤1:=by
      have h:∀r∈([[],st2]:List (List UInt8)),r.length≤1:=by first|(simp;done)|(simp;omega)
      exact h _ hrmsr
     clear hrmsr
     refine WO ?_
     refine ze rfl (efm (c:=fun _=>zl12 1 9 _ _ _ hs (by omega) (by omega) (by omega) (by omega) (by omega) (by omega)) (v:=fun _g=>.cons (.p rfl) (.cons (.c rfl) (.cons (.c rfl) .nil)))) ?_
     rintro F1 H1 ⟨_,_,_,_,⟨orr,aorr,rfl,hq,hx1orr,hx2orr,_,hvorr⟩,hF,hH⟩
     cases hq
     (refine NST hF hH ?_;clear hF hH;rintro rfl rfl)
     have hborr:-1100000000000≤orr∧orr≤1100000000000:=by
      have h:orr=_:=congrArg Prod.fst hvorr
      rw[h]
      exact zr5 (by omega) (by omega) (by omega)
     refine WO ?_
     refine ze rfl (efm (c:=fun _=>zl12 0 60 _ _ _ hs (by omega) (by omega) (by omega) (by omega) (by omega) (by omega)) (v:=fun _g=>.cons (.p rfl) (.cons (.c rfl) (.cons (.c rfl) .nil)))) ?_
     rintro F1 H1 ⟨_,_,_,_,⟨oq,aoq,rfl,hq,hx1oq,hx2oq,_,hvoq⟩,hF,hH⟩
     cases hq
     (refine NST hF hH ?_;clear hF hH;rintro rfl rfl)
     have hboq:-1100000000000≤oq∧oq≤1100000000000:=by
      have h:oq=_:=congrArg Prod.fst hvoq
      rw[h]
      exact zr5 (by omega) (by omega) (by omega)
     refine WE ?_
     refine wkg [some 0,some 1,some 2,some 3,some 4] (fun _=>[(0,.p 0 0 0),(5,.o 3 0 r.length cp),(6,.c (I at1)),(7,.mp 1),(8,.mp 2),(10,.p 4 0 0),(13,.c (I (many:Nat))),(14,.c (I k))]) (fun _=>[strm v zs aoq,mSI ml2 mk2,mSI nl2 nk2,.arr 37 10 cp (noRs r),.box [.c (T sr),.c (I orr),.c (I oq),.c (I kn2),.c (T pr2),.c (T jb),.c (T sp),.c (I n),.c (T of_),.c (I ot)]]) (fun _=>⟨⟨sr,orr,oq,kn2,pr2,jb,sp,n,of_,ot⟩,aoq,by rw[oddNF,if_pos hz,if_pos hrv.symm,←hvsr,←hvorr,←hvoq],⟨hbsr,hby.pr,hby.jb,hby.sp,hby.of_,by simp only;omega,by simp only;omega,hby.kd,hby.n,hby.ot⟩,by omega,by omega,rfl,rfl⟩)
    refine WA ?_
    refine zl rfl (fun g1=>?_) (fun g1=>?_)
    ·rw[g1] at hrv
     refine ZZ ?_
     refine zz3 [[(0,none),(2,none),(3,none),(4,none),(1,some [2,3,4]),(7,none),(5,some [0,2,7]),(6,some [7]),(8,some []),(9,none),(10,some [])],[(0,none),(2,none),(3,none),(4,none),(5,some [0,2]),(1,some [2,3,4]),(7,none),(6,some [7]),(8,some []),(9,none),(10,some [])]] zn (by kernel_rfl) ?_
     focus
      refine WM ?_
      refine zp2 (by rfl) (by rfl) (by rfl) ?_ ?_
      rotate_left
      refine WM ?_
      refine zV (i:=1) (by rfl) (by rfl) rfl rfl (efm (c:=fun _=>zl12 1 7 _ _ _ hs (by omega) (by omega) (by omega) (by omega) (by omega) (by omega)) (v:=fun _g=>.cons (.p rfl) (.cons (.c rfl) (.cons (.c rfl) .nil)))) ?_
      rintro F1 H1 ⟨_,_,_,_,⟨orr,aorr,rfl,hq,hx1orr,hx2orr,_,hvorr⟩,hF,hH⟩
      cases hq
      (refine NST hF hH ?_;clear hF hH;rintro rfl rfl)
      have hborr:-1100000000000≤orr∧orr≤1100000000000:=by
       have h:orr=_:=congrArg Prod.fst hvorr
       rw[h]
       exact zr5 (by omega) (by omega) (by omega)
      refine⟨AGX, ?_⟩
      refine WM ?_
      refine zV (i:=6) (by rfl) (by rfl) rfl rfl (zp true (fun _=>zh1 [[],[65],pr2] _ _ _ _ hs (by omega) (by omega) (by simp) (by simp)) rfl .fn rfl (by decide) (by kernel_rfl) rfl rfl (fun _g=>.cons (.p rfl) (.cons (.frz rfl rfl rfl rfl rfl) .nil)) (fun _g=>.cons (.c rfl) (.cons (.c rfl) .nil)) (fun _ _ _ _ ⟨_,hu,hH,_⟩=>by rw[hu,hH];exact⟨.c (.inl trivial),zk (.inr ⟨0,_,rfl,by simp⟩)⟩)) ?_
      rintro F1 H1 ⟨_,_,_,_,⟨sr,rfl,hq,hrmsr,hvsr⟩,hF,hH⟩
      cases hq
      (refine NST hF hH ?_;clear hF hH;rintro rfl rfl)
      have hbsr:(sr).length≤1:=by
       have h:∀r∈([[],[65],pr2]:List (List UInt8)),r.length≤1:=by first|(simp;done)|(simp;omega)
       exact h _ hrmsr
      clear hrmsr
      refine⟨AGX, ?_⟩
      refine WN ?_
      rotate_right
      refine zV (i:=1) (by rfl) (by rfl) rfl rfl (efm (c:=fun _=>zl12 1 7 _ _ _ hs (by omega) (by omega) (by omega) (by omega) (by omega) (by omega)) (v:=fun _g=>.cons (.p rfl) (.cons (.c rfl) (.cons (.c rfl) .nil)))) ?_
      rintro F1 H1 ⟨_,_,_,_,⟨orr,aorr,rfl,hq,hx1orr,hx2orr,_,hvorr⟩,hF,hH⟩
      cases hq
      (refine NST hF hH ?_;clear hF hH;rintro rfl rfl)
      have hborr:-1100000000000≤orr∧orr≤1100000000000:=by
       have h:orr=_:=congrArg Prod.fst hvorr
       rw[h]
       exact zr5 (by omega) (by omega) (by omega)
      refine⟨AGX, ?_⟩
      refine WM ?_
      refine zV (i:=6) (by rfl) (by rfl) rfl rfl (zp true (fun _=>zh1 [[],[65],pr2] _ _ _ _ hs (by omega) (by omega) (by simp) (by simp)) rfl .fn rfl (by decide) (by kernel_rfl) rfl rfl (fun _g=>.cons (.p rfl) (.cons (.frz rfl rfl rfl rfl rfl) .nil)) (fun _g=>.cons (.c rfl) (.cons (.c rfl) .nil)) (fun _ _ _ _ ⟨_,hu,hH,_⟩=>by rw[hu,hH];exact⟨.c (.inl trivial),zk (.inr ⟨0,_,rfl,by simp⟩)⟩)) ?_
      rintro F1 H1 ⟨_,_,_,_,⟨sr,rfl,hq,hrmsr,hvsr⟩,hF,hH⟩
      cases hq
      (refine NST hF hH ?_;clear hF hH;rintro rfl rfl)
      have hbsr:(sr).length≤1:=by
       have h:∀r∈([[],[65],pr2]:List (List UInt8)),r.length≤1:=by first|(simp;done)|(simp;omega)
       exact h _ hrmsr
      clear hrmsr
      refine⟨AGX, ?_⟩
      refine WN ?_
     all_goals refine wkg [some 0,some 1,some 2,some 3,some 4] (fun _=>[(0,.p 0 0 0),(5,.o 3 0 r.length cp),(6,.c (I at1)),(7,.mp 1),(8,.mp 2),(10,.p 4 0 0),(13,.c (I (many:Nat))),(14,.c (I k))]) (fun _=>[strm v zs (aorr+1),mSI ml2 mk2,mSI nl2 nk2,.arr 37 10 cp (noRs r),.box [.c (T st2),.c (I no2),.c (I at_),.c (I orr),.c (T sr),.c (T jb),.c (T sp),.c (I n),.c (T of_),.c (I ot)]]) (fun _=>⟨⟨st2,no2,at_,orr,sr,jb,sp,n,of_,ot⟩,(aorr+1),by rw[oddNF,if_pos hz,if_neg (by rw[←hrv];decide),if_pos hrv.symm,←hvorr,←hvsr],⟨hby.st,hbsr,hby.jb,hby.sp,hby.of_,hby.no,hby.at_,by simp only;omega,hby.n,hby.ot⟩,by omega,by omega,rfl,rfl⟩)
    refine WA ?_
    refine zl rfl (fun g2=>?_) (fun g2=>?_)
    ·rw[g2] at hrv
     refine WR ?_
     refine ze rfl (zp true (fun _=>zh1 [[],[106]] _ _ _ _ hs (by omega) (by omega) (by simp) (by simp)) rfl .fn rfl (by decide) (by kernel_rfl) rfl rfl (fun _g=>.cons (.p rfl) (.cons (.frz rfl rfl rfl rfl rfl) .nil)) (fun _g=>.cons (.c rfl) (.cons (.c rfl) .nil)) (fun _ _ _ _ ⟨_,hu,hH,_⟩=>by rw[hu,hH];exact⟨.c (.inl trivial),zk (.inr ⟨0,_,rfl,by simp⟩)⟩)) ?_
     rintro F1 H1 ⟨_,_,_,_,⟨sr,rfl,hq,hrmsr,hvsr⟩,hF,hH⟩
     cases hq
     (refine NST hF hH ?_;clear hF hH;rintro rfl rfl)
     have hbsr:(sr).length≤1:=by
      have h:∀r∈([[],[106]]:List (List UInt8)),r.length≤1:=by first|(simp;done)|(simp;omega)
      exact h _ hrmsr
     clear hrmsr
     refine WO ?_
     refine ze rfl (zp true (fun _=>zh1 [[],[115],[66]] _ _ _ _ hs (by omega) (by omega) (by simp) (by simp)) rfl .fn rfl (by decide) (by kernel_rfl) rfl rfl (fun _g=>.cons (.p rfl) (.cons (.frz rfl rfl rfl rfl rfl) .nil)) (fun _g=>.cons (.c rfl) (.cons (.c rfl) .nil)) (fun _ _ _ _ ⟨_,hu,hH,_⟩=>by rw[hu,hH];exact⟨.c (.inl trivial),zk (.inr ⟨0,_,rfl,by simp⟩)⟩)) ?_
     rintro F1 H1 ⟨_,_,_,_,⟨sq,rfl,hq,hrmsq,hvsq⟩,hF,hH⟩
     cases hq
     (refine NST hF hH ?_;clear hF hH;rintro rfl rfl)
     have hbsq:(sq).length≤1:=by
      have h:∀r∈([[],[115],[66]]:List (List UInt8)),r.length≤1:=by first|(simp;done)|(simp;omega)
      exact h _ hrmsq
     clear hrmsq
     refine WE ?_
     refine wkg [some 0,some 1,some 2,some 3,some 4] (fun _=>[(0,.p 0 0 0),(5,.o 3 0 r.length cp),(6,.c (I at1)),(7,.mp 1),(8,.mp 2),(10,.p 4 0 0),(13,.c (I (many:Nat))),(14,.c (I k))]) (fun _=>[strm v zs (a5+1+1+1+1),mSI ml2 mk2,mSI nl2 nk2,.arr 37 10 cp (noRs r),.box [.c (T st2),.c (I no2),.c (I at_),.c (I kn2),.c (T pr2),.c (T sr),.c (T sq),.c (I n),.c (T of_),.c (I ot)]]) (fun _=>⟨⟨st2,no2,at_,kn2,pr2,sr,sq,n,of_,ot⟩,(a5+1+1+1+1),by rw[oddNF,if_pos hz,if_neg (by rw[←hrv];decide),if_neg (by rw[←hrv];decide),if_pos hrv.symm,←hvsr,←hvsq],⟨hby.st,hby.pr,hbsr,hbsq,hby.of_,hby.no,hby.at_,hby.kd,hby.n,hby.ot⟩,by omega,by omega,rfl,rfl⟩)
    refine WR ?_
    refine ze rfl (efm (c:=fun _=>zl12 0 10 _ _ _ hs (by omega) (by omega) (by omega) (by omega) (by omega) (by omega)) (v:=fun _g=>.cons (.p rfl) (.cons (.c rfl) (.cons (.c rfl) .nil)))) ?_
    rintro F1 H1 ⟨_,_,_,_,⟨orr,aorr,rfl,hq,hx1orr,hx2orr,_,hvorr⟩,hF,hH⟩
    cases hq
    (refine NST hF hH ?_;clear hF hH;rintro rfl rfl)
    have hborr:-1100000000000≤orr∧orr≤1100000000000:=by
     have h:orr=_:=congrArg Prod.fst hvorr
     rw[h]
     exact zr5 (by omega) (by omega) (by omega)
    refine WO ?_
    refine ze rfl (zp true (fun _=>zY1 [0,1,-1] _ _ _ _ hs (by omega) (by omega) (by simp) (by simp)) rfl .fn rfl (by decide) (by kernel_rfl) rfl rfl (fun _g=>.cons (.p rfl) (.cons (.frz rfl rfl rfl rfl rfl) .nil)) (fun _g=>.cons (.c rfl) (.cons (.c rfl) .nil)) (fun _ _ _ _ ⟨_,hu,hH,_⟩=>by rw[hu,hH];exact⟨.c (.inl trivial),zk (.inr ⟨0,_,rfl,by simp⟩)⟩)) ?_
    rintro F1 H1 ⟨_,_,_,_,⟨pk,rfl,hq,hrmpk,hvpk⟩,hF,hH⟩
    cases hq
    (refine NST hF hH ?_;clear hF hH;rintro rfl rfl)
    have hbpk:-1≤pk∧pk≤1000:=by
     have h:∀r∈([0,1,-1]:List Int),-1≤r∧r≤1000:=by simp
     exact h _ hrmpk
    clear hrmpk
    refine WE ?_
    refine wkg [some 0,some 1,some 2,some 3,some 4] (fun _=>[(0,.p 0 0 0),(5,.o 3 0 r.length cp),(6,.c (I at1)),(7,.mp 1),(8,.mp 2),(10,.p 4 0 0),(13,.c (I (many:Nat))),(14,.c (I k))]) (fun _=>[strm v zs (aorr+1),mSI ml2 mk2,mSI nl2 nk2,.arr 37 10 cp (noRs r),.box [.c (T st2),.c (I no2),.c (I at_),.c (I kn2),.c (T pr2),.c (T jb),.c (T sp),.c (I orr),.c (T of_),.c (I pk)]]) (fun _=>⟨⟨st2,no2,at_,kn2,pr2,jb,sp,orr,of_,pk⟩,(aorr+1),by rw[oddNF,if_pos hz,if_neg (by rw[←hrv];exact g0),if_neg (by rw[←hrv];exact g1),if_neg (by rw[←hrv];exact g2),←hvorr,←hvpk],⟨hby.st,hby.pr,hby.jb,hby.sp,hby.of_,hby.no,hby.at_,hby.kd,by simp only;omega,by simp only;omega⟩,by omega,by omega,rfl,rfl⟩)
   ·rw[hb] at hvbb
    have hz:=of_decide_eq_false hvbb.symm
    refine ZZ ?_
    refine wkg [some 0,some 1,some 2,some 3,some 4] (fun _=>[(0,.p 0 0 0),(5,.o 3 0 r.length cp),(6,.c (I at1)),(7,.mp 1),(8,.mp 2),(10,.p 4 0 0),(13,.c (I (many:Nat))),(14,.c (I k))]) (fun _=>[strm v zs (a5+1),mSI ml2 mk2,mSI nl2 nk2,.arr 37 10 cp (noRs r),.box [.c (T st2),.c (I no2),.c (I at_),.c (I kn2),.c (T pr2),.c (T jb),.c (T sp),.c (I n),.c (T of_),.c (I ot)]]) (fun _=>⟨⟨st2,no2,at_,kn2,pr2,jb,sp,n,of_,ot⟩,(a5+1),by rw[oddNF,if_neg hz],hby,by omega,by omega,rfl,rfl⟩)
  rintro F H ⟨z,a6,hof,hbz,ha6,ha6b,rfl,rfl⟩
  refine ZZ ?_
  rw[hof] at hnf
  simp only at hnf
  rw[hnf] at hgs
  clear hof hnf hby hbs hbp hkf
  obtain⟨st,no,at_,kn,pr,jb,sp,n,of_,ot⟩:=z
  show AW _ _ _ _ _ [strm v zs a6,mSI ml2 mk2,mSI nl2 nk2,.arr 37 10 cp (noRs r),.box [.c (T st),.c (I no),.c (I at_),.c (I kn),.c (T pr),.c (T jb),.c (T sp),.c (I n),.c (T of_),.c (I ot)]] _
  have e1:(noRs r).length=r.length:=by simp
  refine WR ?_
  refine ze rfl (Zapp (news:=[[T st,I no,I at_,I kn,T pr,T jb,T sp,I n,T of_,I ot]]) (j:=1) (hE:=KA (t:=38) rfl) (hsrc:=.own rfl rfl rfl) (hj:=rfl) (hle:=by omega)) ?_
  rintro _ _ ⟨_,cc,hcc,rfl,rfl⟩
  refine WE ?_
  refine WA ?_
  refine wkg [some 0,some 1,some 2,some 3] (fun _=>[(0,.p 0 0 0),(5,.o 3 0 (r.length+1) cc),(6,.c (I at1)),(7,.mp 1),(8,.mp 2),(13,.c (I (many:Nat))),(14,.c (I (k+1:Nat)))]) (fun _=>[strm v zs a6,mSI ml2 mk2,mSI nl2 nk2,.arr 37 10 cc (noRs r++[[T st,I no,I at_,I kn,T pr,T jb,T sp,I n,T of_,I ot]])]) (fun _=>?_)
  refine⟨m - 1,by omega,k+1,cc,r++[⟨st,no,at_,kn,pr,jb,sp,n,of_,ot⟩],_,ml2,nl2,mk2,nk2,by omega,hgs,hml2,hnl2, ?_,hly2,by simp only;omega,by simp only;omega, ?_,by simp at hcc ⊢;omega,by simp,by simp[noR]⟩
  ·intro s
   have:=hno s
   show 0≤updF _ _ _ s∧updF _ _ _ s≤_
   rw[updF]
   split <;> omega
  ·intro x hx
   rcases List.mem_append.1 hx with hx|hx
   ·exact hr x hx
   ·rw[List.mem_singleton] at hx;subst hx;exact hbz
 obtain rfl:k=many:=by omega
 refine WR ?_
 refine ze rfl (zQ [3] (fun _=>[.arr 37 10 cp (noRs r)]) false (fun _=>zh15 62 (by kernel_rfl) zf7 r cp (by omega) (by omega)) rfl .fn rfl (by decide) (by kernel_rfl) rfl ZCH (by decide) ZCH (by simp)) ?_
 rintro F1 H1 ⟨_,_,_,_,⟨rfl,rfl⟩,hF,hH⟩
 rw[zF] at hF;(refine NSU hF hH ?_;clear hF hH;rintro rfl rfl)
 refine WE ?_
 refine WA ?_
 have hnn:insF r=notesF zs a k:=by rw[notesF,hgen]
 exact zN4 [some 0,some 3] (fun _=>[strm v zs g.a,.arr 37 10 cp (noRs (insF r))]) rfl rfl rfl (zo7 r).symm rfl (by decide) (ZNK rfl) ZCH (fun _=>⟨insF r,cp,g.a,hnn,by rw[hgen],hga.1,hga.2,by rw[zo7,hrl],fun x hx=>hr x (zr10 r x hx),by omega,rfl,rfl⟩)
end Go.Proofs.YtophoepbedlhjaaGreatDoor
