/- cmp.Or of numbers; the order of sides, by value. -/
import Derived.Test.YtophoepbedlhjaaGreatDoorQbl
import Derived.Test.YtophoepbedlhjaaGreatDoorQam
import Derived.Test.YtophoepbedlhjaaGreatDoorQbk
import Derived.Test.YtophoepbedlhjaaGreatDoorQbh
import Derived.Test.YtophoepbedlhjaaGreatDoorQbb
import Derived.Test.YtophoepbedlhjaaGreatDoorQba
import Derived.Test.YtophoepbedlhjaaGreatDoorQau
set_option linter.unusedSimpArgs false
set_option linter.unusedVariables false
namespace Go.Proofs.YtophoepbedlhjaaGreatDoor
open Go Go.RowKit
set_option maxRecDepth 100000
theorem zw11 (l:List Fac3) (i c:Nat) (hi:i < l.length) (hl:l.length≤1000000) (hc:l.length≤c):ACalls Tryz.prog 175 [.o 0 0 l.length c,.c (I i),.c (I (i+1))] [.arr 97 3 c (l.map Fac3.row)] fun u H=>∃l':List Fac3,l'=l.take i++l.drop (i+1)∧u = .o 0 0 l'.length c∧H = [.arr 97 3 c (l'.map Fac3.row)]:=by
 refine ze1 false (N:=33) Tryz.func175 rfl rfl (by simp) fun E hE hP=>?_
 refine WA ?_
 refine ZR ?_
 iterate 5 refine WX1 ?_
 refine ZA (zE10 (l:=i) (h:=i+1) (mx:=l.length) rfl (KE (t:=27) rfl) rfl rfl rfl rfl rfl (by omega) rfl rfl (by omega) (by omega) (by omega) (by omega)) ?_
 refine WE ?_
 refine WA ?_
 refine za rfl ?_
 refine WA ?_
 refine zB5 (zf1 (K:=fun F H=>F = [(0,.o 0 0 l.length c),(1,.c (I i)),(2,.c (I (i+1))),(7,.c (I l.length))]∧H = [.arr 97 3 c (l.map Fac3.row)]) [some 0] (fun _=>[(0,.o 0 0 l.length c),(1,.c (I i)),(2,.c (I (i+1))),(7,.c (I l.length))]) (fun _=>_) (by decide) (ZNL hE) ZCF ZCH (fun _=>⟨rfl,rfl⟩)) ?_
 rintro F H ⟨rfl,rfl⟩
 have hrows:(l.map Fac3.row).take i++(l.drop (i+1)).map Fac3.row=(l.take i++l.drop (i+1)).map Fac3.row:=by
  rw[List.map_append,List.map_take]
 have hlen:(l.take i++l.drop (i+1)).length=i+(l.length - (i+1)):=by simp;omega
 refine zc4 (fun F H=>∃l':List Fac3,l'=l.take i++l.drop (i+1)∧F = [(0,.o 0 0 l'.length c),(7,.c (I l.length))]∧H = [.arr 97 3 c (l'.map Fac3.row)]) ?_ ?_ zb6
 ·rcases Nat.lt_or_ge (i+1) c with hic|hic
  ·refine ZZ ?_
   refine zc [(0,none),(1,none),(2,none),(3,none),(4,none),(5,none),(6,some []),(7,none)] zo (by kernel_rfl) ?_
   iterate 2 refine WX2 ?_
   refine ZT rfl (zM3 (l:=0) (h:=i) rfl (KE (t:=27) rfl) rfl rfl (.inl ⟨rfl,rfl⟩) (.inr ⟨_,_,_,rfl,rfl,rfl⟩) (by omega) (by omega) (by omega)) ?_
   iterate 2 refine WX2 ?_
   refine ZT rfl (zM3 (l:=i+1) (h:=l.length) rfl (KE (t:=27) rfl) rfl rfl (.inr ⟨_,_,_,rfl,rfl,rfl⟩) (.inl ⟨rfl,rfl⟩) (by omega) (by omega) (by omega)) ?_
   refine zY rfl rfl (zh8 (b:=0) (n:=i) (cap:=c) (news:=(l.drop (i+1)).map Fac3.row) rfl rfl (by decide) (KA (t:=27) rfl) rfl rfl (by simp;omega) rfl (Src.own rfl (by rw[Nat.zero_add,←List.map_drop,List.take_of_length_le (by simp)]) (by(try simp) <;> omega)) (by simp;omega)) ?_
   rintro F1 H1 ⟨_,c2,hc2,hcf,hF,hH⟩
   obtain rfl:c2=c:=hcf (by simp;omega)
   (refine NSU hF hH ?_;clear hF hH;rintro rfl rfl)
   refine⟨zk, ?_⟩
   refine WQ ?_
   refine zf1 [some 0] (fun _=>[(0,.o 0 0 (l.take i++l.drop (i+1)).length _),(7,.c (I l.length))]) (fun _=>[.arr 97 3 _ ((l.take i++l.drop (i+1)).map Fac3.row)]) (by decide) (ZNL hE) (fun _g=>.cons rfl (.o rfl (by rw[hlen];simp)) (.cons rfl (.c rfl) .nil)) (fun _g=>.arr rfl hrows .nil) (fun _=>⟨_,rfl,rfl,rfl⟩)
  ·obtain rfl:c=i+1:=by omega
   have hdn:l.drop (i+1) = []:=List.drop_eq_nil_of_le (by omega)
   refine ZZ ?_
   refine zc [(0,none),(1,none),(2,none),(3,none),(4,none),(5,none),(6,some []),(7,none)] zo (by kernel_rfl) ?_
   iterate 2 refine WX2 ?_
   refine ZT rfl (zM3 (l:=0) (h:=i) rfl (KE (t:=27) rfl) rfl rfl (.inl ⟨rfl,rfl⟩) (.inr ⟨_,_,_,rfl,rfl,rfl⟩) (by omega) (by omega) (by omega)) ?_
   iterate 2 refine WX2 ?_
   refine ZT rfl (zZ6 (l:=i+1) (h:=l.length) rfl (KE (t:=27) rfl) rfl rfl (.inr ⟨_,_,_,rfl,rfl,rfl⟩) (.inl ⟨rfl,rfl⟩) (by omega) rfl) ?_
   refine zY rfl rfl (zh8 (b:=0) (n:=i) (cap:=i+1) (news:=(l.drop (i+1)).map Fac3.row) rfl rfl (by decide) (KA (t:=27) rfl) rfl rfl (by simp;omega) rfl (Src.own rfl (by rw[hdn];simp) (by(try simp) <;> omega)) (by simp;omega)) ?_
   rintro F1 H1 ⟨_,c2,hc2,hcf,hF,hH⟩
   obtain rfl:c2=i+1:=hcf (by simp;omega)
   (refine NSU hF hH ?_;clear hF hH;rintro rfl rfl)
   refine⟨zk, ?_⟩
   refine WQ ?_
   refine zf1 [some 0] (fun _=>[(0,.o 0 0 (l.take i++l.drop (i+1)).length _),(7,.c (I l.length))]) (fun _=>[.arr 97 3 _ ((l.take i++l.drop (i+1)).map Fac3.row)]) (by decide) (ZNL hE) (fun _g=>.cons rfl (.o rfl (by rw[hlen];simp)) (.cons rfl (.c rfl) .nil)) (fun _g=>.arr rfl hrows .nil) (fun _=>⟨_,rfl,rfl,rfl⟩)
 rintro F H ⟨l',hl',rfl,rfl⟩
 have hll:l'.length+1=l.length:=by rw[hl',hlen];omega
 refine ZR ?_
 iterate 4 refine WX1 ?_
 refine ZA (zC10 (l:=l'.length) (h:=l.length) rfl (KE (t:=27) rfl) rfl rfl (.inr ⟨_,_,_,rfl,rfl,rfl⟩) (.inr ⟨_,_,_,rfl,rfl,rfl⟩) (by omega) (by omega) (by omega)) ?_
 refine zf rfl (ef_clear rfl rfl (KE (t:=27) rfl) (KZ (t:=97) rfl) rfl rfl rfl rfl (by simp)) ?_
 rintro _ _ ⟨rfl,rfl⟩
 refine WE ?_
 refine WA ?_
 exact zT5 [some 0] (fun _=>[.arr 97 3 c (l'.map Fac3.row)]) rfl rfl rfl rfl rfl (by decide) (ZNK rfl) ZCH (fun _=>⟨l',hl',rfl,rfl⟩)
end Go.Proofs.YtophoepbedlhjaaGreatDoor
-- NEWM
namespace Go.Proofs.YtophoepbedlhjaaGreatDoor
open Go Go.RowKit
set_option maxRecDepth 100000
theorem fIn_mono {n m:Int} {f:Fac3} (h:fIn n f) (hm:n≤m):fIn m f:=by unfold fIn at *;omega
set_option maxHeartbeats 8000000 in
theorem amesh_v (v:Value) (zs:List Int) (a:Int) (hs:StrOk zs) (h0:0≤a) (h1:a≤700000000) :
    ACalls Tryz.prog 103 [.p 0 0 0] [strm v zs a] fun u H=>∃(a':Int) (q w:Value) (V:List Vec3) (Fs:List Fac3),u=mshA q w V Fs∧H = [strm v zs a']∧a≤a'∧a'≤a+200∧V.length≤16∧Fs.length≤25:=by
 refine zb (N:=93) Tryz.func103 rfl rfl (by simp) fun E hE=>?_
 refine WA ?_
 refine WA ?_
 refine WR ?_
 refine zf rfl (efm (c:=fun _=>zl6 1 2 _ _ _ hs (by omega) (by omega) (by omega) (by omega) (by omega) (by omega)) (v:=fun _g=>.cons (.p rfl) (.cons (.c rfl) (.cons (.c rfl) .nil)))) ?_
 rintro F1 H1 ⟨_,_,_,_,⟨rr,ar,rfl,hq,hr3,hr4,hr1,hr2,_⟩,hF,hH⟩
 cases hq
 (refine NST hF hH ?_;clear hF hH;rintro rfl rfl)
 have h64r:in64 rr:=by simp only[in64];omega
 refine WE ?_
 obtain⟨rr1,hrr1⟩:∃q,q=rr:=⟨_,rfl⟩
 rw[←hrr1] at hr1 hr2 ⊢
 refine zm (fun m F H=>∃(k cv cf:Nat) (V:List Vec3) (Fs:List Fac3) (a':Int),m+k=rr1.toNat∧a≤a'∧a'≤a+1+60*k∧V.length≤8*k∧Fs.length≤12*k∧(1≤k→4≤Fs.length)∧(∀f∈Fs,fIn V.length f)∧Fs.length≤cf∧F = [(0,.p 0 0 0),(2,.p 1 0 0),(3,.p 2 0 0),(10,.c (I rr1)),(11,.c (I k))]∧H = [strm v zs a',.box [.c (.r (.slice none 0 0) []),.c (.r (.slice none 0 0) [])],.box [.o 3 0 V.length cv,.o 4 0 Fs.length cf],.arr 90 3 cv (vR V),.arr 97 3 cf (fR Fs)]) ?_ ?_
 ·refine zf1 [some 0,some 1,some 2,none,none] (fun _=>[(0,.p 0 0 0),(2,.p 1 0 0),(3,.p 2 0 0),(10,.c (I rr1)),(11,.c (I (0:Nat)))]) (fun _=>[strm v zs _,.box [.c (.r (.slice none 0 0) []),.c (.r (.slice none 0 0) [])],.box [.o 3 0 0 0,.o 4 0 0 0],.arr 90 3 0 [],.arr 97 3 0 []]) (by decide) (ZNL hE) ZCF ZCH (fun _=>?_)
  exact⟨rr1.toNat,0,0,0,[],[],_,by omega,by omega,by omega,by simp,by simp,by omega,by simp,by simp,rfl,rfl⟩
 rintro m F H ⟨k,cv,cf,V,Fs,a1,hk,ha1,ha2,hV,hFl,hF4,hin,hcf,rfl,rfl⟩
 refine WA ?_
 refine zl rfl (fun hlt=>?_) (fun hge=>?_)
 ·refine WR ?_
  refine zf rfl (efm (c:=fun _=>zG11 _ _ _ hs (by omega) (by omega)) (v:=fun _g=>.cons (.p rfl) .nil)) ?_
  rintro F1 H1 ⟨_,_,_,_,⟨p1,ap1,rfl,hq,up1,vp1,wp1,xp1,yp1⟩,hF,hH⟩
  cases hq
  (refine NST hF hH ?_;clear hF hH;rintro rfl rfl)
  refine WO ?_
  refine zf rfl (zy1 true (fun _=>zP3 [1,6,10] _ _ _ _ hs (by omega) (by omega) (by simp) (by simp)) rfl .fn rfl (by decide) (by kernel_rfl) rfl rfl (fun _g=>.cons (.p rfl) (.cons (.frz rfl rfl rfl rfl rfl) .nil)) (fun _g=>.cons (.c rfl) (.cons (.c rfl) .nil)) (fun _ _ _ _ ⟨_,hu,hH,_⟩=>by rw[hu,hH];exact⟨.c (.inl trivial),zo1 (.inr ⟨0,_,rfl,by simp⟩)⟩)) ?_
  rintro F1 H1 ⟨_,_,_,_,⟨rr,rfl,hq,hrm⟩,hF,hH⟩
  cases hq
  (refine NST hF hH ?_;clear hF hH;rintro rfl rfl)
  have hrr:0≤rr∧rr≤1000:=by simp only[List.mem_cons,List.not_mem_nil,or_false] at hrm;omega
  clear hrm
  refine zf rfl (zP1 [] (fun _=>[]) false (fun _=>zE7 p1 rr (by omega) (by omega)) rfl .fn rfl (by decide) (by kernel_rfl) rfl (fun _=>C0 rfl) (by decide) (fun _=>.nil) (by simp)) ?_
  rintro F1 H1 ⟨_,_,_,_,⟨rfl,rfl⟩,hF,hH⟩
  (refine NSU hF hH ?_;clear hF hH;rintro rfl rfl)
  refine WE ?_
  refine WR ?_
  refine zf rfl (efm (c:=fun _=>zt7 2 _ _ _ hs (by omega) (by omega) (by simp only[in64];omega))) ?_
  rintro F1 H1 ⟨_,_,_,_,⟨bb,rfl,hq⟩,hF,hH⟩
  cases hq
  (refine NST hF hH ?_;clear hF hH;rintro rfl rfl)
  refine WE ?_
  refine zc4 (fun F H=>∃(Vn:List Vec3) (Fn:List Fac3) (c2 d2:Nat) (a2:Int),a1≤a2∧a2≤a1+50∧Vn.length≤8∧Fn.length≤12∧4≤Fn.length∧Fn.length≤d2∧(∀f∈Fn,fIn Vn.length f)∧F = [(0,.p 0 0 0),(2,.p 1 0 0),(3,.p 2 0 0),(4,.p 5 0 0),(10,.c (I rr1)),(11,.c (I k))]∧H = [strm v zs a2,.box [.c (.r (.slice none 0 0) []),.c (.r (.slice none 0 0) [])],.box [.o 3 0 V.length cv,.o 4 0 Fs.length cf],.arr 90 3 cv (vR V),.arr 97 3 cf (fR Fs),.box [.o 6 0 Vn.length c2,.o 7 0 Fn.length d2],.arr 90 3 c2 (vR Vn),.arr 97 3 d2 (fR Fn)]) ?_ ?_ zb6
  ·refine zh rfl (fun _=>?_) (fun _=>?_)
   ·refine WR ?_
    refine zf rfl (efm (c:=fun _=>zG11 _ _ _ hs (by omega) (by omega)) (v:=fun _g=>.cons (.p rfl) .nil)) ?_
    rintro F1 H1 ⟨_,_,_,_,⟨p2,ap2,rfl,hq,up2,vp2,wp2,xp2,yp2⟩,hF,hH⟩
    cases hq
    (refine NST hF hH ?_;clear hF hH;rintro rfl rfl)
    refine WO ?_
    refine zf rfl (zy1 true (fun _=>zP3 [1,5] _ _ _ _ hs (by omega) (by omega) (by simp) (by simp)) rfl .fn rfl (by decide) (by kernel_rfl) rfl rfl (fun _g=>.cons (.p rfl) (.cons (.frz rfl rfl rfl rfl rfl) .nil)) (fun _g=>.cons (.c rfl) (.cons (.c rfl) .nil)) (fun _ _ _ _ ⟨_,hu,hH,_⟩=>by rw[hu,hH];exact⟨.c (.inl trivial),zo1 (.inr ⟨0,_,rfl,by simp⟩)⟩)) ?_
    rintro F1 H1 ⟨_,_,_,_,⟨bx,rfl,hq,hrm⟩,hF,hH⟩
    cases hq
    (refine NST hF hH ?_;clear hF hH;rintro rfl rfl)
    have hbx:0≤bx∧bx≤1000:=by simp only[List.mem_cons,List.not_mem_nil,or_false] at hrm;omega
    clear hrm
    refine WO ?_
    refine zf rfl (zy1 true (fun _=>zP3 [2,10] _ _ _ _ hs (by omega) (by omega) (by simp) (by simp)) rfl .fn rfl (by decide) (by kernel_rfl) rfl rfl (fun _g=>.cons (.p rfl) (.cons (.frz rfl rfl rfl rfl rfl) .nil)) (fun _g=>.cons (.c rfl) (.cons (.c rfl) .nil)) (fun _ _ _ _ ⟨_,hu,hH,_⟩=>by rw[hu,hH];exact⟨.c (.inl trivial),zo1 (.inr ⟨0,_,rfl,by simp⟩)⟩)) ?_
    rintro F1 H1 ⟨_,_,_,_,⟨by',rfl,hq,hrm⟩,hF,hH⟩
    cases hq
    (refine NST hF hH ?_;clear hF hH;rintro rfl rfl)
    have hby':0≤by'∧by'≤1000:=by simp only[List.mem_cons,List.not_mem_nil,or_false] at hrm;omega
    clear hrm
    refine WO ?_
    refine zf rfl (zy1 true (fun _=>zP3 [3,8] _ _ _ _ hs (by omega) (by omega) (by simp) (by simp)) rfl .fn rfl (by decide) (by kernel_rfl) rfl rfl (fun _g=>.cons (.p rfl) (.cons (.frz rfl rfl rfl rfl rfl) .nil)) (fun _g=>.cons (.c rfl) (.cons (.c rfl) .nil)) (fun _ _ _ _ ⟨_,hu,hH,_⟩=>by rw[hu,hH];exact⟨.c (.inl trivial),zo1 (.inr ⟨0,_,rfl,by simp⟩)⟩)) ?_
    rintro F1 H1 ⟨_,_,_,_,⟨bz,rfl,hq,hrm⟩,hF,hH⟩
    cases hq
    (refine NST hF hH ?_;clear hF hH;rintro rfl rfl)
    have hbz:0≤bz∧bz≤1000:=by simp only[List.mem_cons,List.not_mem_nil,or_false] at hrm;omega
    clear hrm
    refine zf rfl (zP1 [] (fun _=>[]) false (fun _=>block_v p2 bx by' bz (by omega) (by omega) (by omega) (by omega)) rfl .fn rfl (by decide) (by kernel_rfl) rfl (fun _=>C0 rfl) (by decide) (fun _=>.nil) (by simp)) ?_
    rintro F1 H1 ⟨_,_,_,_,⟨Vn,Fn,c2,d2,hV2,hF2,hd2,hi2,rfl,rfl⟩,hF,hH⟩
    (refine NSU hF hH ?_;clear hF hH;rintro rfl rfl)
    refine WE ?_
    refine zf1 [some 0,some 1,some 2,some 3,some 4,some 8,some 12,some 13] (fun _=>[(0,.p 0 0 0),(2,.p 1 0 0),(3,.p 2 0 0),(4,.p 5 0 0),(10,.c (I rr1)),(11,.c (I k))]) (fun _=>[strm v zs _,.box [.c (.r (.slice none 0 0) []),.c (.r (.slice none 0 0) [])],.box [.o 3 0 V.length cv,.o 4 0 Fs.length cf],.arr 90 3 cv (vR V),.arr 97 3 cf (fR Fs),.box [.o 6 0 Vn.length c2,.o 7 0 Fn.length d2],.arr 90 3 c2 (vR Vn),.arr 97 3 d2 (fR Fn)]) (by decide) (ZNL hE) ZCF ZCH (fun _=>?_)
    exact⟨Vn,Fn,c2,d2,_,by omega,by omega,by omega,by omega,by omega,by omega,by rw[hV2];exact hi2,rfl,rfl⟩
   ·refine ZZ ?_
    refine zf1 [some 0,some 1,some 2,some 3,some 4,some 8,some 6,some 7] (fun _=>[(0,.p 0 0 0),(2,.p 1 0 0),(3,.p 2 0 0),(4,.p 5 0 0),(10,.c (I rr1)),(11,.c (I k))]) (fun _=>[strm v zs _,.box [.c (.r (.slice none 0 0) []),.c (.r (.slice none 0 0) [])],.box [.o 3 0 V.length cv,.o 4 0 Fs.length cf],.arr 90 3 cv (vR V),.arr 97 3 cf (fR Fs),.box [.o 6 0 (tetV p1 rr).length 4,.o 7 0 tetF.length 4],.arr 90 3 4 (vR (tetV p1 rr)),.arr 97 3 4 (fR tetF)]) (by decide) (ZNL hE) ZCF ZCH (fun _=>?_)
    exact⟨tetV p1 rr,tetF,4,4,_,by omega,by omega,by simp[tetV],by decide,by decide,by decide,tetF_in,rfl,rfl⟩
  rintro F H ⟨Vn,Fn,c2,d2,a2,ha3,ha4,hV2,hF2,hF24,hd2,hi2,rfl,rfl⟩
  refine WA ?_
  refine zl rfl (fun he=>?_) (fun he=>?_)
  ·refine WA ?_
   refine WA ?_
   refine zf1 [some 0,some 1,some 2,some 6,some 7] (fun _=>[(0,.p 0 0 0),(2,.p 1 0 0),(3,.p 2 0 0),(10,.c (I rr1)),(11,.c (I (k+1:Nat)))]) (fun _=>[strm v zs _,.box [.c (.r (.slice none 0 0) []),.c (.r (.slice none 0 0) [])],.box [.o 3 0 Vn.length c2,.o 4 0 Fn.length d2],.arr 90 3 c2 (vR Vn),.arr 97 3 d2 (fR Fn)]) (by decide) (ZNL hE) ZCF ZCH (fun _=>?_)
   exact⟨m - 1,by omega,k+1,c2,d2,Vn,Fn,a2,by omega,by omega,by omega,by omega,by omega,by omega,hi2,hd2,rfl,rfl⟩
  refine WA ?_
  refine WR ?_
  refine zf rfl (Zapp (news:=vR Vn) (KA (t:=26) rfl) (hsrc:=Src.own rfl (by rw[List.drop_zero,List.take_of_length_le (by simp)]) (by simp)) (hj:=rfl) (hle:=by simp;omega)) ?_
  rintro _ _ ⟨_,cv2,hcv2,rfl,rfl⟩
  refine WE ?_
  refine WA ?_
  have hvn:(V++Vn).length=V.length+Vn.length:=by simp
  refine zm (fun m2 F H=>∃(j d3:Nat) (G:List Fac3),m2+j=Fn.length∧G.length=Fs.length+j∧(∀f∈G,fIn (V++Vn).length f)∧G.length≤d3∧F = [(0,.p 0 0 0),(2,.p 1 0 0),(3,.p 2 0 0),(5,.c (I V.length)),(10,.c (I rr1)),(11,.c (I k)),(48,.o 5 0 Fn.length d2),(49,.c (I Fn.length)),(50,.c (I j))]∧H = [strm v zs a2,.box [.c (.r (.slice none 0 0) []),.c (.r (.slice none 0 0) [])],.box [.o 3 0 (V++Vn).length cv2,.o 4 0 G.length d3],.arr 90 3 cv2 (vR (V++Vn)),.arr 97 3 d3 (fR G),.arr 97 3 d2 (fR Fn)]) ?_ ?_
  ·refine wkg [some 0,some 1,some 2,some 3,some 4,some 7] (fun _=>[(0,.p 0 0 0),(2,.p 1 0 0),(3,.p 2 0 0),(5,.c (I V.length)),(10,.c (I rr1)),(11,.c (I k)),(48,.o 5 0 Fn.length d2),(49,.c (I Fn.length)),(50,.c (I (0:Nat)))]) (fun _=>[strm v zs a2,.box [.c (.r (.slice none 0 0) []),.c (.r (.slice none 0 0) [])],.box [.o 3 0 (V++Vn).length cv2,.o 4 0 Fs.length cf],.arr 90 3 cv2 (vR (V++Vn)),.arr 97 3 cf (fR Fs),.arr 97 3 d2 (fR Fn)]) (fun _=>?_)
   exact⟨Fn.length,0,cf,Fs,by omega,by omega,fun f hf=>fIn_mono (hin f hf) (by omega),by omega,rfl,rfl⟩
  rintro m2 F H ⟨j,d3,G,hj,hG,hGi,hGd,rfl,rfl⟩
  refine WA ?_
  refine zl rfl (fun hlt2=>?_) (fun hge2=>?_)
  ·obtain⟨f,hf⟩:∃z,Fn[j]?=some z:=⟨_,List.getElem?_eq_getElem (by omega)⟩
   have hfi:=hi2 f (List.mem_of_getElem? hf)
   obtain⟨fa,fb,fc⟩:=f
   simp only[fIn] at hfi
   obtain⟨f1,f2,f3⟩:=hfi
   have hrow:(fR Fn)[j]?=some [I fa,I fb,I fc]:=by rw[List.getElem?_map,hf];rfl
   have hrow0:(fR Fn)[0+j]?=some [I fa,I fb,I fc]:=by rw[Nat.zero_add];exact hrow
   refine WA ?_
   refine WR ?_
   refine zf rfl (Zapp (KA (t:=27) rfl)) ?_
   rintro _ _ ⟨_,cc,hcc,rfl,rfl⟩
   refine WE ?_
   refine WA ?_
   refine wkg [some 0,some 1,some 2,some 3,some 4,some 5] (fun _=>[(0,.p 0 0 0),(2,.p 1 0 0),(3,.p 2 0 0),(5,.c (I V.length)),(10,.c (I rr1)),(11,.c (I k)),(48,.o 5 0 Fn.length d2),(49,.c (I Fn.length)),(50,.c (I (j+1:Nat)))]) (fun _=>[strm v zs a2,.box [.c (.r (.slice none 0 0) []),.c (.r (.slice none 0 0) [])],.box [.o 3 0 (V++Vn).length cv2,.o 4 0 (G++[(⟨fa+V.length,fb+V.length,fc+V.length⟩:Fac3)]).length cc],.arr 90 3 cv2 (vR (V++Vn)),.arr 97 3 cc (fR (G++[(⟨fa+V.length,fb+V.length,fc+V.length⟩:Fac3)])),.arr 97 3 d2 (fR Fn)]) (fun _=>?_)
   exact⟨m2 - 1,by omega,j+1,cc,_,by omega,by simp;omega,fun f hf=>by
    rcases List.mem_append.1 hf with hf|hf
    ·exact hGi f hf
    ·rw[List.mem_singleton.1 hf];simp only[fIn];omega,by simp;omega,rfl,rfl⟩
  refine WA ?_
  refine wkg [some 0,some 1,some 2,some 3,some 4] (fun _=>[(0,.p 0 0 0),(2,.p 1 0 0),(3,.p 2 0 0),(10,.c (I rr1)),(11,.c (I (k+1:Nat)))]) (fun _=>[strm v zs a2,.box [.c (.r (.slice none 0 0) []),.c (.r (.slice none 0 0) [])],.box [.o 3 0 (V++Vn).length cv2,.o 4 0 G.length d3],.arr 90 3 cv2 (vR (V++Vn)),.arr 97 3 d3 (fR G)]) (fun _=>?_)
  exact⟨m - 1,by omega,k+1,cv2,d3,V++Vn,G,a2,by omega,by omega,by omega,by omega,by omega,by omega,hGi,hGd,rfl,rfl⟩
 refine ZZ ?_
 have hF5:=hF4 (by omega)
 refine WR ?_
 refine zf rfl (efm (c:=fun _=>zt7 3 _ _ _ hs (by omega) (by omega) (by simp only[in64];omega))) ?_
 rintro F1 H1 ⟨_,_,_,_,⟨bb,rfl,hq⟩,hF,hH⟩
 cases hq
 (refine NST hF hH ?_;clear hF hH;rintro rfl rfl)
 refine WE ?_
 refine zc4 (fun F H=>∃(V:List Vec3) (Fs:List Fac3) (cv cf:Nat) (a1:Int),a≤a1∧a1≤a+130∧V.length≤16∧Fs.length≤24∧3≤Fs.length∧(∀f∈Fs,fIn V.length f)∧F = [(0,.p 0 0 0),(2,.p 1 0 0),(3,.p 2 0 0)]∧H = [strm v zs a1,.box [.c (.r (.slice none 0 0) []),.c (.r (.slice none 0 0) [])],.box [.o 3 0 V.length cv,.o 4 0 Fs.length cf],.arr 90 3 cv (vR V),.arr 97 3 cf (fR Fs)]) ?_ ?_ zb6
 ·refine zh rfl (fun _=>?_) (fun _=>?_)
  ·refine WR ?_
   refine zf rfl (efm (c:=fun _=>zl5 (↑Fs.length) _ _ _ hs (by omega) (by omega) (by simp only[in64];omega))) ?_
   rintro F1 H1 ⟨_,_,_,_,⟨rr,rfl,hq,hr1,hr2⟩,hF,hH⟩
   cases hq
   (refine NST hF hH ?_;clear hF hH;rintro rfl rfl)
   obtain⟨i,rfl⟩:∃i:Nat,rr=i:=⟨rr.toNat,by omega⟩
   have hi:=hr2 (by omega)
   clear hr1 hr2
   refine WE ?_
   refine WR ?_
   refine zf rfl (zP1 [4] (fun _=>[.arr 97 3 cf (fR Fs)]) false (fun _=>zw11 Fs i cf (by omega) (by omega) hcf) rfl .fn rfl (by decide) (by kernel_rfl) rfl (fun _=>.cons (.o rfl rfl) (.cons (.c rfl) (.cons (.c rfl) .nil))) (by decide) (fun _=>.arr rfl rfl .nil) (by simp)) ?_
   rintro F1 H1 ⟨_,_,_,_,⟨G,hG,rfl,rfl⟩,hF,hH⟩
   (refine NSU hF hH ?_;clear hF hH;rintro rfl rfl)
   refine WE ?_
   have hGl:G.length+1=Fs.length:=by rw[hG];simp;omega
   refine zf1 [some 0,some 1,some 2,some 3,some 4] (fun _=>[(0,.p 0 0 0),(2,.p 1 0 0),(3,.p 2 0 0)]) (fun _=>[strm v zs _,.box [.c (.r (.slice none 0 0) []),.c (.r (.slice none 0 0) [])],.box [.o 3 0 V.length cv,.o 4 0 G.length cf],.arr 90 3 cv (vR V),.arr 97 3 cf (fR G)]) (by decide) (ZNL hE) ZCF ZCH (fun _=>?_)
   exact⟨V,G,cv,cf,_,by omega,by omega,by omega,by omega,by omega,fun f hf=>hin f (by
    rw[hG] at hf
    rcases List.mem_append.1 hf with hf|hf
    ·exact List.mem_of_mem_take hf
    ·exact List.mem_of_mem_drop hf),rfl,rfl⟩
  ·refine ZZ ?_
   refine zf1 [some 0,some 1,some 2,some 3,some 4] (fun _=>[(0,.p 0 0 0),(2,.p 1 0 0),(3,.p 2 0 0)]) (fun _=>[strm v zs _,.box [.c (.r (.slice none 0 0) []),.c (.r (.slice none 0 0) [])],.box [.o 3 0 V.length cv,.o 4 0 Fs.length cf],.arr 90 3 cv (vR V),.arr 97 3 cf (fR Fs)]) (by decide) (ZNL hE) ZCF ZCH (fun _=>?_)
   exact⟨V,Fs,cv,cf,_,by omega,by omega,by omega,by omega,by omega,hin,rfl,rfl⟩
 clear hcf hin hF4 hF5 hFl hV ha1 ha2 hk
 rintro F H ⟨V,Fs,cv,cf,a1,ha1,ha2,hV,hFl,hF3,hin,rfl,rfl⟩
 refine WR ?_
 refine zf rfl (efm (c:=fun _=>zt7 8 _ _ _ hs (by omega) (by omega) (by simp only[in64];omega))) ?_
 rintro F1 H1 ⟨_,_,_,_,⟨bb,rfl,hq⟩,hF,hH⟩
 cases hq
 (refine NST hF hH ?_;clear hF hH;rintro rfl rfl)
 refine WE ?_
 refine zc4 (fun F H=>∃(V:List Vec3) (Fs:List Fac3) (cv cf:Nat) (a1:Int),a≤a1∧a1≤a+160∧V.length≤16∧Fs.length≤25∧F = [(0,.p 0 0 0),(2,.p 1 0 0),(3,.p 2 0 0)]∧H = [strm v zs a1,.box [.c (.r (.slice none 0 0) []),.c (.r (.slice none 0 0) [])],.box [.o 3 0 V.length cv,.o 4 0 Fs.length cf],.arr 90 3 cv (vR V),.arr 97 3 cf (fR Fs)]) ?_ ?_ zb6
 ·refine zh rfl (fun _=>?_) (fun _=>?_)
  ·refine WR ?_
   refine zf rfl (zP1 [0,2,3,4] (fun _=>[strm v zs (a1+1),.box [.o 2 0 V.length cv,.o 3 0 Fs.length cf],.arr 90 3 cv (vR V),.arr 97 3 cf (fR Fs)]) false (fun _=>spoil_v v zs (a1+1) hs (by omega) (by omega) V Fs cv cf (by omega) (by omega) (by omega) hin) rfl .fn rfl (by decide) (by kernel_rfl) rfl ZCH (by decide) ZCH (by simp)) ?_
   rintro F1 H1 ⟨_,_,_,_,⟨a2,Vn,Fn,cf2,rfl,rfl,ha3,ha4,hV2,hF2⟩,hF,hH⟩
   (refine NSU hF hH ?_;clear hF hH;rintro rfl rfl)
   refine WE ?_
   refine zf1 [some 0,some 1,some 2,some 3,some 4] (fun _=>[(0,.p 0 0 0),(2,.p 1 0 0),(3,.p 2 0 0)]) (fun _=>[strm v zs _,.box [.c (.r (.slice none 0 0) []),.c (.r (.slice none 0 0) [])],.box [.o 3 0 Vn.length cv,.o 4 0 Fn.length cf2],.arr 90 3 cv (vR Vn),.arr 97 3 cf2 (fR Fn)]) (by decide) (ZNL hE) ZCF ZCH (fun _=>?_)
   exact⟨Vn,Fn,cv,cf2,_,by omega,by omega,by omega,by omega,rfl,rfl⟩
  ·refine ZZ ?_
   refine zf1 [some 0,some 1,some 2,some 3,some 4] (fun _=>[(0,.p 0 0 0),(2,.p 1 0 0),(3,.p 2 0 0)]) (fun _=>[strm v zs _,.box [.c (.r (.slice none 0 0) []),.c (.r (.slice none 0 0) [])],.box [.o 3 0 V.length cv,.o 4 0 Fs.length cf],.arr 90 3 cv (vR V),.arr 97 3 cf (fR Fs)]) (by decide) (ZNL hE) ZCF ZCH (fun _=>?_)
   exact⟨V,Fs,cv,cf,_,by omega,by omega,by omega,by omega,rfl,rfl⟩
 clear hin hF3 hFl hV ha1 ha2
 rintro F H ⟨V,Fs,cv,cf,a1,ha1,ha2,hV,hFl,rfl,rfl⟩
 refine WA ?_
 exact zI (us:=[.a [.o 3 0 (V).length cv,.o 4 0 (Fs).length cf]]) [some 0] (fun g=>.a [.c (.r (g (.o 3 0 (V).length cv)) (vR (V))),.c (.r (g (.o 4 0 (Fs).length cf)) (fR (Fs)))]) (fun _=>[strm v zs a1]) (.cella rfl (KK (t:=29) rfl) (Cells.box rfl) (by simp) (by(try simp only[nm,putL,Nat.reduceAdd,cellsOf,cvOf]) <;> rfl) .nil) (by decide) (ZNK rfl) (fun _=>.aL (.cons (.frz rfl rfl (by rw[List.drop_zero,List.take_of_length_le (by simp)]) (by simp) rfl) (.cons (.frz rfl rfl (by rw[List.drop_zero,List.take_of_length_le (by simp)]) (by simp) rfl) .nil))) ZCH (fun _=>⟨_,_,_,V,Fs,rfl,rfl,by omega,by omega,hV,hFl⟩)
end Go.Proofs.YtophoepbedlhjaaGreatDoor
-- NEWM
namespace Go.Proofs.YtophoepbedlhjaaGreatDoor
open Go Go.RowKit
set_option maxRecDepth 100000
set_option maxHeartbeats 8000000 in
theorem zM7 (v:Value) (zs:List Int) (a:Int) (hs:StrOk zs) (h0:0≤a) (h1:a≤600000000) :
    ACalls Tryz.prog 44 [.p 0 0 0] [strm v zs a] fun u H=>∃(a':Int) (q w:Value) (V:List Vec3) (Fs:List Fac3),u=mshA q w V Fs∧H = [strm v zs a']∧a≤a'∧a'≤a+1600∧V.length≤16∧Fs.length≤25∧mshF V Fs=0:=by
 refine zb (N:=15) Tryz.func44 rfl rfl (by simp) fun E hE=>?_
 refine WA ?_
 refine WA ?_
 refine zm (fun m F H=>∃(k:Nat) (a1:Int),m+k=8∧a≤a1∧a1≤a+200*k∧F = [(0,.p 0 0 0),(2,.p 1 0 0),(4,.c (I k))]∧H = [strm v zs a1,.box [.c (.r (.slice none 0 0) []),.c (.r (.slice none 0 0) [])]]) ?_ ?_
 ·refine wkg [some 0,some 1] (fun _=>[(0,.p 0 0 0),(2,.p 1 0 0),(4,.c (I (0:Nat)))]) (fun _=>[strm v zs a,.box [.c (.r (.slice none 0 0) []),.c (.r (.slice none 0 0) [])]]) (fun _=>?_)
  exact⟨8,0,a,by omega,by omega,by omega,rfl,rfl⟩
 rintro m F H ⟨k,a1,hk,ha1,ha2,rfl,rfl⟩
 refine WA ?_
 refine zl rfl (fun hlt=>?_) (fun hge=>?_)
 ·refine WR ?_
  refine zf rfl (efm (c:=fun _=>amesh_v _ _ _ hs (by omega) (by omega)) (v:=fun _g=>.cons (.p rfl) .nil)) ?_
  rintro F1 H1 ⟨_,_,_,_,⟨a2,q,w,V,Fs,rfl,hq,ha3,ha4,hV,hFl⟩,hF,hH⟩
  cases hq
  (refine NST hF hH ?_;clear hF hH;rintro rfl rfl)
  refine WE ?_
  refine WR ?_
  refine zf rfl (efk (c:=fun _=>rmshF_v q w V Fs (by omega) (by omega))) ?_
  rintro _ _ ⟨_,_,_,⟨rfl,rfl⟩,hF,hH⟩
  (refine NST hF hH ?_;clear hF hH;rintro rfl rfl)
  refine WE ?_
  refine zl rfl (fun hok=>?_) (fun hok=>?_)
  ·refine WA ?_
   exact zn1 [some 0] [strm v zs a2] rfl (KK (t:=29) rfl) rfl (Cells.box rfl) (by simp) (by(try simp only[nm,putL,Nat.reduceAdd,cellsOf,cvOf]) <;> rfl) (by decide) (ZNK rfl) (fun _=>C0 rfl) ZCH ⟨_,q,w,V,Fs,rfl,rfl,by omega,by omega,hV,hFl,hok⟩
  ·refine WA ?_
   refine wkg [some 0,some 1] (fun _=>[(0,.p 0 0 0),(2,.p 1 0 0),(4,.c (I (k+1:Nat)))]) (fun _=>[strm v zs a2,.box [.c (.r (.slice none 0 0) []),.c (.r (.slice none 0 0) [])]]) (fun _=>?_)
   exact⟨m - 1,by omega,k+1,a2,by omega,by omega,by omega,rfl,rfl⟩
 refine WR ?_
 refine zf rfl (zP1 [] (fun _=>[]) false (fun _=>zE7 ⟨0,0,0⟩ 6 (by decide) (by decide)) rfl .fn rfl (by decide) (by kernel_rfl) rfl (fun _=>C0 rfl) (by decide) (fun _=>.nil) (by simp)) ?_
 rintro F1 H1 ⟨_,_,_,_,⟨rfl,rfl⟩,hF,hH⟩
 (refine NSU hF hH ?_;clear hF hH;rintro rfl rfl)
 refine WE ?_
 exact zI (us:=[.a [.o 2 0 (tetV ⟨0,0,0⟩ 6).length 4,.o 3 0 (tetF).length 4]]) [some 0] (fun g=>.a [.c (.r (g (.o 2 0 (tetV ⟨0,0,0⟩ 6).length 4)) (vR (tetV ⟨0,0,0⟩ 6))),.c (.r (g (.o 3 0 (tetF).length 4)) (fR (tetF)))]) (fun _=>[strm v zs a1]) (.cella rfl (KK (t:=29) rfl) (Cells.box rfl) (by simp) (by(try simp only[nm,putL,Nat.reduceAdd,cellsOf,cvOf]) <;> rfl) .nil) (by decide) (ZNK rfl) (fun _=>.aL (.cons (.frz rfl rfl (by rw[List.drop_zero,List.take_of_length_le (by simp)]) (by simp) rfl) (.cons (.frz rfl rfl (by rw[List.drop_zero,List.take_of_length_le (by simp)]) (by simp) rfl) .nil))) ZCH (fun _=>⟨_,_,_,tetV ⟨0,0,0⟩ 6,tetF,rfl,rfl,by omega,by omega,by decide,by decide,by decide⟩)
end Go.Proofs.YtophoepbedlhjaaGreatDoor
-- NEWM
namespace Go.Proofs.YtophoepbedlhjaaGreatDoor
open Go Go.RowKit
set_option maxRecDepth 100000
end Go.Proofs.YtophoepbedlhjaaGreatDoor
-- NEWM
namespace Go.Proofs.YtophoepbedlhjaaGreatDoor
open Go Go.RowKit
set_option maxRecDepth 100000
abbrev Slnt.row (s:Slnt):List CV:=[I s.low,I s.high,I s.most]
end Go.Proofs.YtophoepbedlhjaaGreatDoor
namespace Go.Proofs.YtophoepbedlhjaaGreatDoor
open Go Go.RowKit
set_option maxRecDepth 100000
end Go.Proofs.YtophoepbedlhjaaGreatDoor
-- NEWM
namespace Go.Proofs.YtophoepbedlhjaaGreatDoor
open Go Go.RowKit
set_option maxRecDepth 100000
end Go.Proofs.YtophoepbedlhjaaGreatDoor
-- NEWM
namespace Go.Proofs.YtophoepbedlhjaaGreatDoor
open Go Go.RowKit
set_option maxRecDepth 100000
theorem zi11 {l:List Int} {k:Nat} {n:Int} (h:l[k]?=some n):fst0 (l.drop k)=if n=0 then fst0 (l.drop (k+1)) else n:=by
 obtain⟨h1,h2⟩:=List.getElem?_eq_some_iff.1 h
 rw[List.drop_eq_getElem_cons h1,h2];rfl
end Go.Proofs.YtophoepbedlhjaaGreatDoor
-- NEWM
namespace Go.Proofs.YtophoepbedlhjaaGreatDoor
open Go Go.RowKit
set_option maxRecDepth 100000
theorem orI_v (l:List Int) (v:Value) (hl:l.length≤1000000):ACalls Tryz.prog 70 [.c (.r v (zR l))] [] fun u H=>u = .c (I (fst0 l))∧H = []:=by
 have e1:(zR l).length=l.length:=by simp
 refine zb (N:=18) Tryz.func70 rfl rfl (by simp) fun E hE=>?_
 refine WA ?_
 refine WA ?_
 refine WA ?_
 refine zm (fun m F H=>∃(k:Nat),m+k=l.length∧fst0 (l.drop k)=fst0 l∧F = [(3,.c (I 0)),(6,.c (.r v (zR l))),(7,.c (I (zR l).length)),(8,.c (I k))]∧H = []) ?_ ?_
 ·refine zf1 [] (fun _=>[(3,.c (I 0)),(6,.c (.r v (zR l))),(7,.c (I (zR l).length)),(8,.c (I (0:Nat)))]) (fun _=>_) (by decide) (ZNL hE) ZCF (fun _=>.nil) (fun _=>?_)
  exact⟨l.length,0,by omega,rfl,rfl,rfl⟩
 rintro m F H ⟨k,hk,hf,rfl,rfl⟩
 refine WA ?_
 refine zl rfl (fun hlt=>?_) (fun hge=>?_)
 ·obtain⟨n,hn⟩:∃n,l[k]?=some n:=⟨_,List.getElem?_eq_getElem (by omega)⟩
  have hrow:(zR l)[k]?=some [I n]:=by rw[List.getElem?_map,hn];rfl
  have hd:=zi11 hn
  refine WA ?_
  refine WA ?_
  refine zl rfl (fun hv=>?_) (fun hv=>?_)
  ·refine WA ?_
   exact arz (q:=⟨by rw[←hf,hd,if_neg hv],rfl⟩)
  ·refine WA ?_
   refine zf1 [] (fun _=>[(3,.c (I 0)),(6,.c (.r v (zR l))),(7,.c (I (zR l).length)),(8,.c (I (k+1:Nat)))]) (fun _=>_) (by decide) (ZNL hE) ZCF (fun _=>.nil) (fun _=>?_)
   exact⟨m - 1,by omega,k+1,by omega,by rw[←hf,hd,if_pos (by omega)],rfl,rfl⟩
 refine WA ?_
 exact arz (q:=⟨by rw[←hf,List.drop_eq_nil_of_le (by omega)];rfl,rfl⟩)
def sidC (a b:Sid2):Int:=fst0 [cmpI a.f b.f,cmpI a.t b.t]
theorem sidC_v (a b:Sid2):ACalls Tryz.prog 108 [.a (a.row.map .c),.a (b.row.map .c)] [] fun u H=>u = .c (I (sidC a b))∧H = []:=by
 obtain⟨af,at_⟩:=a
 obtain⟨bf,bt⟩:=b
 refine zb (N:=17) Tryz.func108 rfl rfl (by simp) fun E hE=>?_
 refine WA ?_
 refine ZZ ?_
 refine zc [(0,none),(1,none),(2,none),(3,none),(5,none),(6,none),(7,none),(8,none),(4,some [5,6,7,8]),(9,some []),(10,some []),(11,some []),(12,none)] zo (by kernel_rfl) ?_
 refine WP ?_
 refine zY rfl rfl (zn false (fun _=>zx7 _ _) rfl .fn rfl (by decide) (by kernel_rfl) rfl (fun _g=>.cons (.c rfl) (.cons (.c rfl) .nil)) (by simp)) ?_
 rintro _ _ ⟨_,_,_,⟨rfl,rfl⟩,hF,hH⟩
 (refine NST hF hH ?_;clear hF hH;rintro rfl rfl)
 refine⟨zj (by first|exact zF rfl rfl rfl (ZX (KF (t:=189) (f:=1) rfl rfl)) rfl) (zj (by first|exact zF rfl rfl rfl (ZL (KK (t:=3) rfl)) rfl) (zj (by first|exact zF rfl rfl rfl (ZX (KF (t:=189) (f:=1) rfl rfl)) rfl) (zj (by first|exact zF rfl rfl rfl (ZL (KK (t:=3) rfl)) rfl) (zk)))), ?_⟩
 refine zY rfl rfl (zn false (fun _=>zx7 _ _) rfl .fn rfl (by decide) (by kernel_rfl) rfl (fun _g=>.cons (.c rfl) (.cons (.c rfl) .nil)) (by simp)) ?_
 rintro _ _ ⟨_,_,_,⟨rfl,rfl⟩,hF,hH⟩
 (refine NST hF hH ?_;clear hF hH;rintro rfl rfl)
 refine⟨zk, ?_⟩
 refine WP ?_
 refine zY rfl rfl (zn true (fun g=>orI_v [cmpI af bf,cmpI at_ bt] (g (.o 2 0 2 2)) (by simp)) rfl .fn rfl (by decide) (by kernel_rfl) rfl (fun _=>.cons (.frz rfl rfl rfl rfl rfl) .nil) (fun _ _ _ _ ⟨hu,hH⟩=>by rw[hu,hH];exact⟨.c (.inl trivial),by simp⟩)) ?_
 rintro _ _ ⟨_,_,_,⟨rfl,rfl⟩,hF,hH⟩
 (refine NST hF hH ?_;clear hF hH;rintro rfl rfl)
 refine⟨zk, ?_⟩
 refine WQ ?_
 all_goals exact arz (q:=⟨rfl,rfl⟩)
end Go.Proofs.YtophoepbedlhjaaGreatDoor
