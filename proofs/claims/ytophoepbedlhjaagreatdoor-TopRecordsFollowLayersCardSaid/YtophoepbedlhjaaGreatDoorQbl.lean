/- A mesh is spoilt at one place, by value. -/
import Derived.Test.YtophoepbedlhjaaGreatDoorQbk
set_option linter.unusedSimpArgs false
set_option linter.unusedVariables false
-- NEWM
namespace Go.Proofs.YtophoepbedlhjaaGreatDoor
open Go Go.RowKit
set_option maxRecDepth 100000
def outH (n lo hi:Int):Bool:=decide (n < lo) || decide (hi < n)
def spnF (n lo hi:Int):Int:=if outH n lo hi=true then 1 else 0
theorem span_v (n lo hi:Int):ACalls Tryz.prog 81 [.c (I n),.c (I lo),.c (I hi)] [] fun u H=>u = .c (I (spnF n lo hi))∧H = []:=by
 refine zb (N:=12) Tryz.func81 rfl rfl (by simp) fun E hE=>?_
 refine WA ?_
 refine WR ?_
 refine zf rfl (zn false (fun _=>rin_v _ _ _) rfl .fn rfl (by decide) (by kernel_rfl) rfl (fun _g=>.cons (.c rfl) (.cons (.c rfl) (.cons (.c rfl) .nil))) (by simp)) ?_
 rintro _ _ ⟨_,_,_,⟨rfl,rfl⟩,hF,hH⟩
 (refine NST hF hH ?_;clear hF hH;rintro rfl rfl)
 refine WE ?_
 refine zh rfl (fun hb=>?_) (fun hb=>?_)
 ·refine WA ?_
  exact arz (q:=⟨by rw[spnF,if_pos (by simpa [outH] using hb)],rfl⟩)
 ·refine WA ?_
  exact arz (q:=⟨by rw[spnF,if_neg (by simpa [outH] using hb)],rfl⟩)
theorem zL2 (n:Int) (b:Bool) (h:outH n 1 10000=b):ACalls Tryz.prog 48 [.c (I n)] [] fun u H=>u = .c (B (!b))∧H = []:=by
 subst h
 refine zb (N:=6) Tryz.func48 rfl rfl (by simp) fun E hE=>?_
 repeat' (first
  | refine ZY ?_
  | refine zu rfl (by assumption) ?_|refine zt rfl (by assumption) ?_|refine zl rfl (fun _=>?_) (fun _=>?_)|refine zh rfl (fun _=>?_) (fun _=>?_)
  | (refine ze (id:=1) ?_
     refine WO ?_
     refine zf rfl (zn false (fun _=>ze7 _ _ _) rfl .fn rfl (by decide) (by kernel_rfl) rfl (fun _g=>.cons (.c rfl) (.cons (.c rfl) (.cons (.c rfl) .nil))) (by simp)) ?_
     rintro _ _ ⟨_,_,_,⟨rfl,rfl⟩,hF,hH⟩
     (refine NST hF hH ?_;clear hF hH;rintro rfl rfl)
     refine WE ?_)
  | (refine ze ?_;refine WE ?_))
 exact arz (q:=⟨rfl,rfl⟩)
def hgtR (V:List Vec3) (Fs:List Fac3) (first step:Int):List Int × Int:=
 if 1000 < hsN (loZ V Fs) (hiZ V Fs) first step then ([],2) else (hsL (loZ V Fs) (hiZ V Fs) first step,0)
def hgtP (V:List Vec3) (Fs:List Fac3) (first step:Int):List Int × Int:=
 if mshF V Fs≠0 then ([],mshF V Fs) else if (outH first 1 10000 || outH step 1 10000)=true then ([],1) else hgtR V Fs first step
set_option maxHeartbeats 4000000 in
theorem ze11 (v w:Value) (V:List Vec3) (Fs:List Fac3) (first step:Int) (hVl:V.length≤1000000) (hFl:Fs.length≤1000000):ACalls Tryz.prog 7 [mshA v w V Fs,.c (I first),.c (I step)] [] fun u H=>∃q,u = .t [.c (.r q (zR (hgtP V Fs first step).1)),.c (I (hgtP V Fs first step).2)]∧H = []:=by
 refine zb (N:=50) Tryz.func7 rfl rfl (by simp) fun E hE=>?_
 refine WA ?_
 refine WR ?_
 refine zf rfl (efk (c:=fun _=>zm8 v w V Fs (by omega) (by omega))) ?_
 rintro _ _ ⟨_,_,_,⟨rfl,rfl⟩,hF,hH⟩
 (refine NST hF hH ?_;clear hF hH;rintro rfl rfl)
 refine WE ?_
 refine WA ?_
 refine zl rfl (fun hv=>?_) (fun hv=>?_)
 ·refine WA ?_
  exact zd4 [] _ rfl rfl rfl rfl rfl (by decide) (ZNK rfl) (fun _=>.nil) ⟨_,by rw[hgtP,if_pos hv];rfl,rfl⟩
 refine ZZ ?_
 have hM:MOk V Fs:=mok_of (by omega)
 have e0:hgtP V Fs first step=if (outH first 1 10000 || outH step 1 10000)=true then ([],1) else hgtR V Fs first step:=by rw[hgtP,if_neg hv]
 cases h1:outH first 1 10000 with
 | true=>
  refine WR ?_
  refine zf rfl (zn false (fun _=>zL2 first true h1) rfl .fn rfl (by decide) (by kernel_rfl) rfl (fun _g=>.cons (.c rfl) .nil) (by simp)) ?_
  rintro _ _ ⟨_,_,_,⟨rfl,rfl⟩,hF,hH⟩
  (refine NST hF hH ?_;clear hF hH;rintro rfl rfl)
  refine WE ?_
  refine zd rfl ?_
  refine WA ?_
  exact zd4 [] _ rfl rfl rfl rfl rfl (by decide) (ZNK rfl) (fun _=>.nil) ⟨_,by rw[e0,h1];rfl,rfl⟩
 | false=>
  cases h2:outH step 1 10000 with
  | true=>
   refine WR ?_
   refine zf rfl (zn false (fun _=>zL2 first false h1) rfl .fn rfl (by decide) (by kernel_rfl) rfl (fun _g=>.cons (.c rfl) .nil) (by simp)) ?_
   rintro _ _ ⟨_,_,_,⟨rfl,rfl⟩,hF,hH⟩
   (refine NST hF hH ?_;clear hF hH;rintro rfl rfl)
   refine WO ?_
   refine G1 rfl ?_
   refine zf rfl (zn false (fun _=>zL2 step true h2) rfl .fn rfl (by decide) (by kernel_rfl) rfl (fun _g=>.cons (.c rfl) .nil) (by simp)) ?_
   rintro _ _ ⟨_,_,_,⟨rfl,rfl⟩,hF,hH⟩
   (refine NST hF hH ?_;clear hF hH;rintro rfl rfl)
   refine WE ?_
   refine zd rfl ?_
   refine WA ?_
   exact zd4 [] _ rfl rfl rfl rfl rfl (by decide) (ZNK rfl) (fun _=>.nil) ⟨_,by rw[e0,h1,h2];rfl,rfl⟩
  | false=>
   refine WR ?_
   refine zf rfl (zn false (fun _=>zL2 first false h1) rfl .fn rfl (by decide) (by kernel_rfl) rfl (fun _g=>.cons (.c rfl) .nil) (by simp)) ?_
   rintro _ _ ⟨_,_,_,⟨rfl,rfl⟩,hF,hH⟩
   (refine NST hF hH ?_;clear hF hH;rintro rfl rfl)
   refine WO ?_
   refine G1 rfl ?_
   refine zf rfl (zn false (fun _=>zL2 step false h2) rfl .fn rfl (by decide) (by kernel_rfl) rfl (fun _g=>.cons (.c rfl) .nil) (by simp)) ?_
   rintro _ _ ⟨_,_,_,⟨rfl,rfl⟩,hF,hH⟩
   (refine NST hF hH ?_;clear hF hH;rintro rfl rfl)
   refine WE ?_
   refine za rfl ?_
   refine ZZ ?_
   rw[h1,h2] at e0
   simp only[outH,Bool.or_eq_false_iff,decide_eq_false_iff_not] at h1 h2
   have n1:=lo_near hM
   have n2:=hi_near hM
   refine WR ?_
   refine zf rfl (efk (c:=fun _=>boxof_v v w V Fs hM)) ?_
   rintro _ _ ⟨_,_,_,⟨⟨lx,ly,lz⟩,⟨hx,hy,hz⟩,rfl,rfl,rfl,rfl⟩,hF,hH⟩
   (refine NST hF hH ?_;clear hF hH;rintro rfl rfl)
   refine WE ?_
   refine WA ?_
   refine WA ?_
   have hN:=hsN_le (lo:=loZ V Fs) (hi:=hiZ V Fs) (first:=first) (step:=step) (by omega) (by omega) n1.1 n2.2
   have hmore:=fun k=>hs_more (lo:=loZ V Fs) (hi:=hiZ V Fs) (first:=first) (step:=step) (by omega) k
   have htake:=fun k=>hs_take (lo:=loZ V Fs) (hi:=hiZ V Fs) (first:=first) (step:=step) k
   have hlen:=zd11 (loZ V Fs) (hiZ V Fs) first step
   have hall:=fun k=>hs_all (lo:=loZ V Fs) (hi:=hiZ V Fs) (first:=first) (step:=step) (k:=k)
   have e5:hgtR V Fs first step=if 1000 < hsN (loZ V Fs) (hiZ V Fs) first step then ([],2) else (hsL (loZ V Fs) (hiZ V Fs) first step,0):=rfl
   generalize hL:hsL (loZ V Fs) (hiZ V Fs) first step=L at htake hlen hall e5
   generalize hNN:hsN (loZ V Fs) (hiZ V Fs) first step=n at hN hmore htake hlen hall e5
   generalize loZ V Fs=lo at n1 hmore htake ⊢
   generalize hiZ V Fs=hi at n2 hmore ⊢
   refine zm (fun m F H=>∃(k c:Nat) (z:Int),m+k=n∧z=lo+first+(k:Int)*step∧F = [(2,.c (I step)),(9,.p 0 0 0),(10,.p 1 0 0),(11,.o 2 0 (L.take k).length c),(12,.c (I z))]∧H = [vBox lx ly lo,vBox hx hy hi,.arr 3 1 c (zR (L.take k))]) ?_ ?_
   ·refine wkg [some 1,some 2,none] (fun _=>[(2,.c (I step)),(9,.p 0 0 0),(10,.p 1 0 0),(11,.o 2 0 0 0),(12,.c (I (lo+first)))]) (fun _=>[vBox lx ly lo,vBox hx hy hi,.arr 3 1 0 []]) (fun _=>?_)
    exact⟨n,0,0,lo+first,by omega,by simp,by simp,by simp⟩
   rintro m F H ⟨k,c,z,hk,hz,rfl,rfl⟩
   have hmk:=hmore k
   rw[←hz] at hmk
   have hzz:z < hi→z≤100000∧z+step≤110000:=fun h=>by omega
   have hz0:0≤(k:Int)*step:=Int.mul_nonneg (by omega) (by omega)
   have hkl:(L.take k).length=k:=by rw[List.length_take,hlen];omega
   refine WA ?_
   refine zl rfl (fun hlt=>?_) (fun hge=>?_)
   ·have hkn:k < n:=hmk.1 hlt
    have ht:=htake k hkn
    rw[←hz] at ht
    generalize hT:L.take k=T at ht hkl ⊢
    refine WR ?_
    refine zf rfl (Zapp (KA (t:=22) rfl)) ?_
    rintro _ _ ⟨_,cc,hcc,rfl,rfl⟩
    refine WE ?_
    refine WA ?_
    refine zf1 [some 0,some 1,some 2] (fun _=>[(2,.c (I step)),(9,.p 0 0 0),(10,.p 1 0 0),(11,.o 2 0 (T++[z]).length cc),(12,.c (I (z+step)))]) (fun _=>_) (by decide) (ZNL hE) ZCF ZCH (fun _=>?_)
    refine⟨m - 1,by omega,k+1,cc,z+step,by omega, ?_,by rw[ht], ?_⟩
    ·rw[hz,show ((k+1:Nat):Int)=(k:Int)+1 by omega,Int.add_mul];omega
    ·rw[ht];simp[zR]
   obtain rfl:k=n:=by
    have:¬k < n:=fun h=>hge (hmk.2 h)
    omega
   have ha:=hall k (Nat.le_refl _)
   rw[ha] at hkl ⊢
   refine WA ?_
   refine zl rfl (fun hb=>?_) (fun hb=>?_)
   ·refine WA ?_
    exact zd4 [] _ rfl rfl rfl rfl rfl (by decide) (ZNK rfl) (fun _=>.nil) ⟨_,by rw[e0,if_neg (by simp),e5,if_pos (by omega)];rfl,rfl⟩
   ·refine WA ?_
    exact aret_f2 [] _ rfl rfl rfl rfl rfl rfl (by rw[List.drop_zero,List.take_of_length_le (by simp)]) (by simp) rfl (by decide) (ZNK rfl) (fun _=>.nil) (fun q=>⟨q,by rw[e0,if_neg (by simp),e5,if_neg (by omega)],rfl⟩)
end Go.Proofs.YtophoepbedlhjaaGreatDoor
-- NEWM
namespace Go.Proofs.YtophoepbedlhjaaGreatDoor
open Go Go.RowKit
set_option maxRecDepth 100000
end Go.Proofs.YtophoepbedlhjaaGreatDoor
-- NEWM
namespace Go.Proofs.YtophoepbedlhjaaGreatDoor
open Go Go.RowKit
set_option maxRecDepth 100000
def tetV (p:Vec3) (n:Int):List Vec3:=[p,⟨p.x+n,p.y,p.z⟩,⟨p.x,p.y+n,p.z⟩,⟨p.x,p.y,p.z+n⟩]
def tetF:List Fac3:=[⟨0,2,1⟩,⟨0,1,3⟩,⟨1,2,3⟩,⟨0,3,2⟩]
theorem zE7 (p:Vec3) (n:Int) (hp:(-4000000000000000000≤p.x∧p.x≤4000000000000000000)∧(-4000000000000000000≤p.y∧p.y≤4000000000000000000)∧(-4000000000000000000≤p.z∧p.z≤4000000000000000000)) (hn:0≤n∧n≤1000) :
    ACalls Tryz.prog 46 [.a (p.row.map .c),.c (I n)] [] fun u H=>u = .a [.o 0 0 4 4,.o 1 0 4 4]∧H = [.arr 90 3 4 (vR (tetV p n)),.arr 97 3 4 (fR tetF)]:=by
 obtain⟨x,y,z⟩:=p
 simp only at hp
 refine zb (N:=40) Tryz.func46 rfl rfl (by simp) fun E hE=>?_
 refine WA ?_
 refine WA ?_
 exact zn1 [some 2,some 3] [.arr 90 3 4 (vR (tetV ⟨x,y,z⟩ n)),.arr 97 3 4 (fR tetF)] rfl (KK (t:=29) rfl) rfl (Cells.box rfl) (by simp) (by(try simp only[nm,putL,Nat.reduceAdd,cellsOf,cvOf]) <;> rfl) (by decide) (ZNK rfl) (fun _=>.cons (.o rfl rfl) (.cons (.o rfl rfl) .nil)) ZCH ⟨rfl,rfl⟩
end Go.Proofs.YtophoepbedlhjaaGreatDoor
-- NEWM
namespace Go.Proofs.YtophoepbedlhjaaGreatDoor
open Go Go.RowKit
set_option maxRecDepth 100000
def bnd (r:Int):Prop:=-2000000000000≤r∧r≤2000000000000
theorem oddb_v (lo hi:Int) (v:Value) (zs:List Int) (a:Int) (hs:StrOk zs) (h0:0≤a) (h1:a≤900000000) (h2:-1000000≤lo) (h3:lo≤1000000) (h4:-1000000≤hi) (h5:hi≤1000000) (h6:lo≤hi) :
    ACalls Tryz.prog 60 [.p 0 0 0,.c (I lo),.c (I hi)] [strm v zs a] fun u H=>∃r a',u = .c (I r)∧H = [strm v zs a']∧a≤a'∧a'≤a+2∧-2000000000000≤r∧r≤2000000000000:=by
 refine zb (N:=22) Tryz.func60 rfl rfl (by simp) fun E hE=>?_
 repeat' (first
  | refine ZY ?_
  | refine zu rfl (by assumption) ?_|refine zt rfl (by assumption) ?_|refine zl rfl (fun _=>?_) (fun _=>?_)|refine zh rfl (fun _=>?_) (fun _=>?_)
  | (refine ze (id:=1) ?_
     refine WO ?_
     refine zf rfl (efm (c:=fun _=>zt7 12 _ _ _ hs (by omega) (by omega) (by simp only[in64];omega))) ?_
     rintro F1 H1 ⟨_,_,_,_,⟨bb,rfl,hq⟩,hF,hH⟩
     cases hq
     (refine NST hF hH ?_;clear hF hH;rintro rfl rfl)
     refine WE ?_)
  | (refine ze (id:=2) ?_
     refine WO ?_
     refine zf rfl (zy1 true (fun _=>zP3 [lo - 1,hi+1,lo,hi,-1099511627776,1099511627776] _ _ _ _ hs (by omega) (by omega) (by simp) (by simp)) rfl .fn rfl (by decide) (by kernel_rfl) rfl rfl (fun _g=>.cons (.p rfl) (.cons (.frz rfl rfl rfl rfl rfl) .nil)) (fun _g=>.cons (.c rfl) (.cons (.c rfl) .nil)) (fun _ _ _ _ ⟨_,hu,hH,_⟩=>by rw[hu,hH];exact⟨.c (.inl trivial),zo1 (.inr ⟨0,_,rfl,by simp⟩)⟩)) ?_
     rintro F1 H1 ⟨_,_,_,_,⟨rr,rfl,hq,hrm⟩,hF,hH⟩
     cases hq
     (refine NST hF hH ?_;clear hF hH;rintro rfl rfl)
     have h64r:-2000000000000≤rr∧rr≤2000000000000:=by simp only[List.mem_cons,List.not_mem_nil,or_false] at hrm;omega
     clear hrm
     refine WE ?_)
  | (refine ze (id:=3) ?_
     refine WO ?_
     refine zf rfl (efm (c:=fun _=>zl6 lo hi _ _ _ hs (by omega) (by omega) (by omega) (by omega) (by omega) (by omega)) (v:=fun _g=>.cons (.p rfl) (.cons (.c rfl) (.cons (.c rfl) .nil)))) ?_
     rintro F1 H1 ⟨_,_,_,_,⟨rr,ar,rfl,hq,hr3,hr4,hr1,hr2,_⟩,hF,hH⟩
     cases hq
     (refine NST hF hH ?_;clear hF hH;rintro rfl rfl)
     have h64r:in64 rr:=by simp only[in64];omega
     refine WE ?_)
  | (refine ze ?_;refine WE ?_))
 all_goals (refine zP2 [some 0] _ rfl rfl rfl (by decide) (ZNK rfl) ZCH ?_)
 all_goals exact⟨_,_,rfl,rfl,by omega,by omega,by omega,by omega⟩
theorem zG11 (v:Value) (zs:List Int) (a:Int) (hs:StrOk zs) (h0:0≤a) (h1:a≤800000000):ACalls Tryz.prog 173 [.p 0 0 0] [strm v zs a] fun u H=>∃(p:Vec3) (a':Int),u = .a (p.row.map .c)∧H = [strm v zs a']∧a≤a'∧a'≤a+10∧(-2000000000000≤p.x∧p.x≤2000000000000)∧(-2000000000000≤p.y∧p.y≤2000000000000)∧(-2000000000000≤p.z∧p.z≤2000000000000):=by
 refine zb (N:=20) Tryz.func173 rfl rfl (by simp) fun E hE=>?_
 refine WA ?_
 refine WR ?_
 refine zf rfl (zy1 true (fun _=>zP3 [0,1,3,-5,100] _ _ _ _ hs (by omega) (by omega) (by simp) (by simp)) rfl .fn rfl (by decide) (by kernel_rfl) rfl rfl (fun _g=>.cons (.p rfl) (.cons (.frz rfl rfl rfl rfl rfl) .nil)) (fun _g=>.cons (.c rfl) (.cons (.c rfl) .nil)) (fun _ _ _ _ ⟨_,hu,hH,_⟩=>by rw[hu,hH];exact⟨.c (.inl trivial),zo1 (.inr ⟨0,_,rfl,by simp⟩)⟩)) ?_
 rintro F1 H1 ⟨_,_,_,_,⟨rr,rfl,hq,hrm⟩,hF,hH⟩
 cases hq
 (refine NST hF hH ?_;clear hF hH;rintro rfl rfl)
 have h64r:-2000000000000≤rr∧rr≤2000000000000:=by simp only[List.mem_cons,List.not_mem_nil,or_false] at hrm;omega
 clear hrm
 refine WO ?_
 refine zf rfl (zy1 true (fun _=>zP3 [0,2,-7,50] _ _ _ _ hs (by omega) (by omega) (by simp) (by simp)) rfl .fn rfl (by decide) (by kernel_rfl) rfl rfl (fun _g=>.cons (.p rfl) (.cons (.frz rfl rfl rfl rfl rfl) .nil)) (fun _g=>.cons (.c rfl) (.cons (.c rfl) .nil)) (fun _ _ _ _ ⟨_,hu,hH,_⟩=>by rw[hu,hH];exact⟨.c (.inl trivial),zo1 (.inr ⟨0,_,rfl,by simp⟩)⟩)) ?_
 rintro F1 H1 ⟨_,_,_,_,⟨rr,rfl,hq,hrm⟩,hF,hH⟩
 cases hq
 (refine NST hF hH ?_;clear hF hH;rintro rfl rfl)
 have h64r:-2000000000000≤rr∧rr≤2000000000000:=by simp only[List.mem_cons,List.not_mem_nil,or_false] at hrm;omega
 clear hrm
 refine WO ?_
 refine zf rfl (zy1 true (fun _=>zP3 [0,0,4,-2,20] _ _ _ _ hs (by omega) (by omega) (by simp) (by simp)) rfl .fn rfl (by decide) (by kernel_rfl) rfl rfl (fun _g=>.cons (.p rfl) (.cons (.frz rfl rfl rfl rfl rfl) .nil)) (fun _g=>.cons (.c rfl) (.cons (.c rfl) .nil)) (fun _ _ _ _ ⟨_,hu,hH,_⟩=>by rw[hu,hH];exact⟨.c (.inl trivial),zo1 (.inr ⟨0,_,rfl,by simp⟩)⟩)) ?_
 rintro F1 H1 ⟨_,_,_,_,⟨rr,rfl,hq,hrm⟩,hF,hH⟩
 cases hq
 (refine NST hF hH ?_;clear hF hH;rintro rfl rfl)
 have h64r:-2000000000000≤rr∧rr≤2000000000000:=by simp only[List.mem_cons,List.not_mem_nil,or_false] at hrm;omega
 clear hrm
 refine WE ?_
 refine WR ?_
 refine zf rfl (efm (c:=fun _=>zt7 40 _ _ _ hs (by omega) (by omega) (by simp only[in64];omega))) ?_
 rintro F1 H1 ⟨_,_,_,_,⟨bb,rfl,hq⟩,hF,hH⟩
 cases hq
 (refine NST hF hH ?_;clear hF hH;rintro rfl rfl)
 refine WE ?_
 refine zh rfl (fun _=>?_) (fun _=>?_)
 ·refine WR ?_
  refine zf rfl (efm (c:=fun _=>oddb_v (-100000) 100000 _ _ _ hs (by omega) (by omega) (by omega) (by omega) (by omega) (by omega) (by omega)) (v:=fun _g=>.cons (.p rfl) (.cons (.c rfl) (.cons (.c rfl) .nil)))) ?_
  rintro F1 H1 ⟨_,_,_,_,⟨rr,ar,rfl,hq,hr3,hr4,h64r⟩,hF,hH⟩
  cases hq
  (refine NST hF hH ?_;clear hF hH;rintro rfl rfl)
  refine WE ?_
  refine WA ?_
  refine zn1 [some 0] _ rfl (KK (t:=90) rfl) rfl (Cells.box rfl) (by simp) (by(try simp only[nm,putL,Nat.reduceAdd,cellsOf,cvOf]) <;> rfl) (by decide) (ZNK rfl) (fun _=>C0 rfl) ZCH ⟨⟨_,_,_⟩,_,rfl,rfl, ?_, ?_, ?_, ?_, ?_⟩
  all_goals first|assumption|omega
 ·refine WA ?_
  refine zn1 [some 0] _ rfl (KK (t:=90) rfl) rfl (Cells.box rfl) (by simp) (by(try simp only[nm,putL,Nat.reduceAdd,cellsOf,cvOf]) <;> rfl) (by decide) (ZNK rfl) (fun _=>C0 rfl) ZCH ⟨⟨_,_,_⟩,_,rfl,rfl, ?_, ?_, ?_, ?_, ?_⟩
  all_goals first|assumption|omega
def fIn (n:Int) (f:Fac3):Prop:=(0≤f.a∧f.a < n)∧(0≤f.b∧f.b < n)∧(0≤f.c∧f.c < n)
theorem tetF_in:∀f∈tetF,fIn 4 f:=by simp[tetF,fIn]
abbrev quads:List (List CV):=[[I 0,I 2,I 3,I 1],[I 4,I 5,I 7,I 6],[I 0,I 1,I 5,I 4],[I 2,I 6,I 7,I 3],[I 0,I 4,I 6,I 2],[I 1,I 3,I 7,I 5]]
theorem quads_at {j:Nat} (h:j < 6):∃a b c d:Int,quads[j]?=some [I a,I b,I c,I d]∧((0≤a∧a < 8)∧(0≤b∧b < 8)∧(0≤c∧c < 8)∧(0≤d∧d < 8)):=by
 rcases j with _|_|_|_|_|_|j
 ·exact⟨0,2,3,1,rfl,by omega⟩
 ·exact⟨4,5,7,6,rfl,by omega⟩
 ·exact⟨0,1,5,4,rfl,by omega⟩
 ·exact⟨2,6,7,3,rfl,by omega⟩
 ·exact⟨0,4,6,2,rfl,by omega⟩
 ·exact⟨1,3,7,5,rfl,by omega⟩
 ·omega
set_option maxHeartbeats 4000000 in
theorem block_v (p:Vec3) (x y z:Int) (hp:(-2000000000000≤p.x∧p.x≤2000000000000)∧(-2000000000000≤p.y∧p.y≤2000000000000)∧(-2000000000000≤p.z∧p.z≤2000000000000)) (hx:0≤x∧x≤1000) (hy:0≤y∧y≤1000) (hz:0≤z∧z≤1000) :
    ACalls Tryz.prog 174 [.a (p.row.map .c),.c (I x),.c (I y),.c (I z)] [] fun u H=>∃(V:List Vec3) (Fs:List Fac3) (c d:Nat),V.length=8∧Fs.length=12∧12≤d∧(∀f∈Fs,fIn 8 f)∧u = .a [.o 0 0 V.length c,.o 1 0 Fs.length d]∧H = [.arr 90 3 c (vR V),.arr 97 3 d (fR Fs)]:=by
 obtain⟨px,py,pz⟩:=p
 simp only at hp
 refine zb (N:=78) Tryz.func174 rfl rfl (by simp) fun E hE=>?_
 refine WA ?_
 refine WA ?_
 refine WA ?_
 refine zm (fun m F H=>∃(k c:Nat) (L:List Vec3),m+k=8∧L.length=k∧F = [(1,.c (I x)),(2,.c (I y)),(3,.c (I z)),(4,.p 0 0 0),(8,.p 1 0 0),(9,.p 2 0 0),(13,.c (I k))]∧H = [.box [.c (I px),.c (I py),.c (I pz)],.box [.c (.r (.slice none 0 0) []),.c (.r (.slice none 0 0) [])],.box [.o 3 0 L.length c,.c (.r (.slice none 0 0) [])],.arr 90 3 c (vR L)]) ?_ ?_
 ·refine wkg [some 0,some 1,some 2,none] (fun _=>[(1,.c (I x)),(2,.c (I y)),(3,.c (I z)),(4,.p 0 0 0),(8,.p 1 0 0),(9,.p 2 0 0),(13,.c (I (0:Nat)))]) (fun _=>[.box [.c (I px),.c (I py),.c (I pz)],.box [.c (.r (.slice none 0 0) []),.c (.r (.slice none 0 0) [])],.box [.o 3 0 0 0,.c (.r (.slice none 0 0) [])],.arr 90 3 0 []]) (fun _=>?_)
  exact⟨8,0,0,[],rfl,rfl,rfl,rfl⟩
 rintro m F H ⟨k,c,L,hk,hL,rfl,rfl⟩
 refine WA ?_
 refine zl rfl (fun hlt=>?_) (fun hge=>?_)
 ·have q1:0≤x*((k:Int) % 2)∧x*((k:Int) % 2)≤1000*2:=⟨Int.mul_nonneg hx.1 (by omega),Int.mul_le_mul hx.2 (by omega) (by omega) (by omega)⟩
  have q2:0≤y*((k:Int) / 2 % 2)∧y*((k:Int) / 2 % 2)≤1000*2:=⟨Int.mul_nonneg hy.1 (by omega),Int.mul_le_mul hy.2 (by omega) (by omega) (by omega)⟩
  have q3:0≤z*((k:Int) / 4)∧z*((k:Int) / 4)≤1000*2:=⟨Int.mul_nonneg hz.1 (by omega),Int.mul_le_mul hz.2 (by omega) (by omega) (by omega)⟩
  have hLl:(vR L).length=k:=by simp[hL]
  refine WA ?_
  refine WR ?_
  refine zf rfl (Zapp (KA (t:=26) rfl)) ?_
  rintro _ _ ⟨_,cc,hcc,rfl,rfl⟩
  refine WE ?_
  refine WA ?_
  refine wkg [some 0,some 1,some 2,some 3] (fun _=>[(1,.c (I x)),(2,.c (I y)),(3,.c (I z)),(4,.p 0 0 0),(8,.p 1 0 0),(9,.p 2 0 0),(13,.c (I (k+1:Nat)))]) (fun _=>[.box [.c (I px),.c (I py),.c (I pz)],.box [.c (.r (.slice none 0 0) []),.c (.r (.slice none 0 0) [])],.box [.o 3 0 (L++[(⟨px+x*((k:Int) % 2),py+y*((k:Int) / 2 % 2),pz+z*((k:Int) / 4)⟩:Vec3)]).length cc,.c (.r (.slice none 0 0) [])],.arr 90 3 cc (vR (L++[(⟨px+x*((k:Int) % 2),py+y*((k:Int) / 2 % 2),pz+z*((k:Int) / 4)⟩:Vec3)]))]) (fun _=>?_)
  exact⟨m - 1,by omega,k+1,cc,_,by omega,by simp;omega,rfl,rfl⟩
 obtain rfl:k=8:=by omega
 refine ZR ?_
 refine ZA (zi2 (pl:=[(0,1),(1,1),(2,1),(3,1)]) rfl (KZ (t:=329) rfl) rfl (by kernel_rfl) (Zbc (z:=Zbc (z:=Zbc (z:=Zbc (z:=.nil)))))) ?_
 refine ZA (zi2 (pl:=[(0,1),(1,1),(2,1),(3,1)]) rfl (KZ (t:=329) rfl) rfl (by kernel_rfl) (Zbc (z:=Zbc (z:=Zbc (z:=Zbc (z:=.nil)))))) ?_
 refine ZA (zi2 (pl:=[(0,1),(1,1),(2,1),(3,1)]) rfl (KZ (t:=329) rfl) rfl (by kernel_rfl) (Zbc (z:=Zbc (z:=Zbc (z:=Zbc (z:=.nil)))))) ?_
 refine ZA (zi2 (pl:=[(0,1),(1,1),(2,1),(3,1)]) rfl (KZ (t:=329) rfl) rfl (by kernel_rfl) (Zbc (z:=Zbc (z:=Zbc (z:=Zbc (z:=.nil)))))) ?_
 refine ZA (zi2 (pl:=[(0,1),(1,1),(2,1),(3,1)]) rfl (KZ (t:=329) rfl) rfl (by kernel_rfl) (Zbc (z:=Zbc (z:=Zbc (z:=Zbc (z:=.nil)))))) ?_
 refine ZA (zi2 (pl:=[(0,1),(1,1),(2,1),(3,1)]) rfl (KZ (t:=329) rfl) rfl (by kernel_rfl) (Zbc (z:=Zbc (z:=Zbc (z:=Zbc (z:=.nil)))))) ?_
 refine WE ?_
 refine zm (fun m F H=>∃(j d:Nat) (Fs:List Fac3),m+j=6∧Fs.length=2*j∧Fs.length≤d∧(∀f∈Fs,fIn 8 f)∧F = [(8,.p 0 0 0),(9,.p 1 0 0),(51,.o 4 0 6 6),(52,.c (I (6:Nat))),(53,.c (I j))]∧H = [.box [.c (.r (.slice none 0 0) []),.c (.r (.slice none 0 0) [])],.box [.o 2 0 L.length c,.o 3 0 Fs.length d],.arr 90 3 c (vR L),.arr 97 3 d (fR Fs),.arr 329 4 6 quads]) ?_ ?_
 ·refine wkg [some 1,some 2,some 3,none,some 4] (fun _=>[(8,.p 0 0 0),(9,.p 1 0 0),(51,.o 4 0 6 6),(52,.c (I (6:Nat))),(53,.c (I (0:Nat)))]) (fun _=>[.box [.c (.r (.slice none 0 0) []),.c (.r (.slice none 0 0) [])],.box [.o 2 0 L.length c,.o 3 0 0 0],.arr 90 3 c (vR L),.arr 97 3 0 [],.arr 329 4 6 quads]) (fun _=>?_)
  exact⟨6,0,0,[],rfl,rfl,by simp,by simp,rfl,rfl⟩
 rintro m F H ⟨j,d,Fs,hj,hFl,hFd,hFi,rfl,rfl⟩
 refine WA ?_
 refine zl rfl (fun hlt2=>?_) (fun hge2=>?_)
 ·obtain⟨qa,qb,qc,qd,hrow,h4⟩:=quads_at (j:=j) (by omega)
  have hrow0:quads[0+j]?=some [I qa,I qb,I qc,I qd]:=by rw[Nat.zero_add];exact hrow
  refine WA ?_
  refine ZR ?_
  iterate 2 refine WX1 ?_
  refine ZA (zE4 (e:=3) (sz:=1) (n:=4) (i:=0) rfl (by kernel_rfl) rfl rfl rfl (by omega)) ?_
  refine WX1 ?_
  refine ZA (zE4 (e:=3) (sz:=1) (n:=4) (i:=1) rfl (by kernel_rfl) rfl rfl rfl (by omega)) ?_
  refine WX1 ?_
  refine ZA (zE4 (e:=3) (sz:=1) (n:=4) (i:=2) rfl (by kernel_rfl) rfl rfl rfl (by omega)) ?_
  iterate 2 refine WX1 ?_
  refine ZA (zE4 (e:=3) (sz:=1) (n:=4) (i:=0) rfl (by kernel_rfl) rfl rfl rfl (by omega)) ?_
  refine WX1 ?_
  refine ZA (zE4 (e:=3) (sz:=1) (n:=4) (i:=2) rfl (by kernel_rfl) rfl rfl rfl (by omega)) ?_
  refine WX1 ?_
  refine ZA (zE4 (e:=3) (sz:=1) (n:=4) (i:=3) rfl (by kernel_rfl) rfl rfl rfl (by omega)) ?_
  refine WO ?_
  refine zf rfl (Zapp (KA (t:=27) rfl)) ?_
  rintro _ _ ⟨_,cc,hcc,rfl,rfl⟩
  refine WE ?_
  refine WA ?_
  refine wkg [some 0,some 1,some 2,some 3,some 4] (fun _=>[(8,.p 0 0 0),(9,.p 1 0 0),(51,.o 4 0 6 6),(52,.c (I (6:Nat))),(53,.c (I (j+1:Nat)))]) (fun _=>[.box [.c (.r (.slice none 0 0) []),.c (.r (.slice none 0 0) [])],.box [.o 2 0 L.length c,.o 3 0 (Fs++[(⟨qa,qb,qc⟩:Fac3),⟨qa,qc,qd⟩]).length cc],.arr 90 3 c (vR L),.arr 97 3 cc (fR (Fs++[⟨qa,qb,qc⟩,⟨qa,qc,qd⟩])),.arr 329 4 6 quads]) (fun _=>?_)
  exact⟨m - 1,by omega,j+1,cc,_,by omega,by simp;omega,by simp;omega,fun f hf=>by
   simp only[List.mem_append,List.mem_cons,List.not_mem_nil,or_false] at hf
   rcases hf with hf|rfl|rfl
   ·exact hFi f hf
   ·simp only[fIn];omega
   ·simp only[fIn];omega,rfl,rfl⟩
 obtain rfl:j=6:=by omega
 refine WA ?_
 exact zn1 [some 2,some 3] [.arr 90 3 c (vR L),.arr 97 3 d (fR Fs)] rfl (KK (t:=29) rfl) rfl (Cells.box rfl) (by simp) (by(try simp only[nm,putL,Nat.reduceAdd,cellsOf,cvOf]) <;> rfl) (by decide) (ZNK rfl) (fun _=>.cons (.o rfl rfl) (.cons (.o rfl rfl) .nil)) ZCH ⟨L,Fs,c,d,hL,hFl,by omega,hFi,rfl,rfl⟩
end Go.Proofs.YtophoepbedlhjaaGreatDoor
-- NEWM
namespace Go.Proofs.YtophoepbedlhjaaGreatDoor
open Go Go.RowKit
set_option maxRecDepth 100000
set_option maxHeartbeats 4000000 in
theorem spoil_v (v:Value) (zs:List Int) (a:Int) (hs:StrOk zs) (h0:0≤a) (h1:a≤800000000) (V:List Vec3) (Fs:List Fac3) (cv cf:Nat) (hV:V.length≤100) (hF0:1≤Fs.length) (hF1:Fs.length≤100) (hin:∀f∈Fs,fIn V.length f) :
    ACalls Tryz.prog 176 [.p 0 0 0,.p 1 0 0] [strm v zs a,.box [.o 2 0 V.length cv,.o 3 0 Fs.length cf],.arr 90 3 cv (vR V),.arr 97 3 cf (fR Fs)] fun u H=>∃(a':Int) (V':List Vec3) (Fs':List Fac3) (cf':Nat),u = .t []∧H = [strm v zs a',.box [.o 2 0 V'.length cv,.o 3 0 Fs'.length cf'],.arr 90 3 cv (vR V'),.arr 97 3 cf' (fR Fs')]∧a≤a'∧a'≤a+10∧V'.length=V.length∧Fs'.length≤Fs.length+1:=by
 have eV:(vR V).length=V.length:=by simp
 have eF:(fR Fs).length=Fs.length:=by simp
 refine ze1 false (N:=105) Tryz.func176 rfl rfl (by simp) fun E hE hP=>?_
 refine ZZ ?_
 refine zc [(0,none),(1,none),(2,none),(3,none),(4,none),(5,none),(6,none),(7,none),(8,none),(9,none),(10,some [0,1,2,3]),(11,none),(12,none)] zo (by kernel_rfl) ?_
 refine WP ?_
 refine zY rfl rfl (efm (c:=fun _=>zl5 (↑Fs.length) _ _ _ hs (by omega) (by omega) (by simp only[in64];omega))) ?_
 rintro F1 H1 ⟨_,_,_,_,⟨rr,rfl,hq,hr1,hr2⟩,hF,hH⟩
 cases hq
 (refine NST hF hH ?_;clear hF hH;rintro rfl rfl)
 obtain⟨i,rfl⟩:∃i:Nat,rr=i:=⟨rr.toNat,by omega⟩
 have hi:=hr2 (by omega)
 clear hr1 hr2
 refine⟨zj (by first|exact zF rfl rfl rfl (zd3 rfl rfl) rfl) (zj (by first|exact zF rfl rfl rfl (zP8 rfl rfl) rfl|exact zF rfl rfl rfl (zj6 rfl rfl) rfl) (zj (by first|exact zF rfl rfl rfl (ZX (KF (t:=29) (f:=1) rfl rfl)) rfl) (zj (by first|exact zF rfl rfl rfl (ZL (KK (t:=27) rfl)) rfl) (zk)))), ?_⟩
 refine WQ ?_
 refine WR ?_
 refine zf rfl (efm (c:=fun _=>zl5 5 _ _ _ hs (by omega) (by omega) (by simp only[in64];omega))) ?_
 rintro F1 H1 ⟨_,_,_,_,⟨rr,rfl,hq,hr1,hr2⟩,hF,hH⟩
 cases hq
 (refine NST hF hH ?_;clear hF hH;rintro rfl rfl)
 refine WE ?_
 obtain⟨kk,hkk⟩:∃q,q=rr:=⟨_,rfl⟩
 rw[←hkk]
 refine WA ?_
 obtain⟨⟨fa,fb,fc⟩,hz⟩:∃z,Fs[i]?=some z:=⟨_,List.getElem?_eq_getElem (by omega)⟩
 have hrow:(fR Fs)[i]?=some [I fa,I fb,I fc]:=by rw[List.getElem?_map,hz];rfl
 have hrow0:(fR Fs)[0+i]?=some [I fa,I fb,I fc]:=by rw[Nat.zero_add];exact hrow
 have hfi:=hin _ (List.mem_of_getElem? hz)
 simp only[fIn] at hfi
 obtain⟨h2a,h2b,h2c⟩:=hfi
 refine zl rfl (fun e0=>?_) (fun e0=>?_)
 ·refine ZZ ?_
  refine zc [(0,none),(1,none),(2,none),(3,none),(4,none),(5,none),(6,none),(7,none),(8,none),(9,none),(10,none),(11,some [0,1]),(12,some [0]),(13,none),(14,none),(15,some [])] zo (by kernel_rfl) ?_
  refine WP ?_
  refine zY rfl rfl (zy1 true (fun _=>zP3 [-1,↑V.length,fb] _ _ _ _ hs (by omega) (by omega) (by simp) (by simp)) rfl .fn rfl (by decide) (by kernel_rfl) rfl rfl (fun _g=>.cons (.p rfl) (.cons (.frz rfl rfl rfl rfl rfl) .nil)) (fun _g=>.cons (.c rfl) (.cons (.c rfl) .nil)) (fun _ _ _ _ ⟨_,hu,hH,_⟩=>by rw[hu,hH];exact⟨.c (.inl trivial),zo1 (.inr ⟨0,_,rfl,by simp⟩)⟩)) ?_
  rintro F1 H1 ⟨_,_,_,_,⟨rr,rfl,hq,hrm⟩,hF,hH⟩
  cases hq
  (refine NST hF hH ?_;clear hF hH;rintro rfl rfl)
  clear hrm
  refine⟨zj (by first|exact zF rfl rfl rfl (zd3 rfl rfl) rfl) (zk), ?_⟩
  refine WQ ?_
  all_goals exact zQ1 [some 0,some 1,some 2,some 3] (fun _=>[strm v zs _,.box [.o 2 0 (V).length cv,.o 3 0 (Fs.set i ⟨rr,fb,fc⟩).length cf],.arr 90 3 cv (vR (V)),.arr 97 3 cf (fR (Fs.set i ⟨rr,fb,fc⟩))]) (.inr rfl) rfl (by decide) (ZNK rfl) ZCH (fun _=>⟨_,V,Fs.set i ⟨rr,fb,fc⟩,cf,rfl,rfl,by omega,by omega,by simp,by simp⟩)
 refine WA ?_
 refine zl rfl (fun e1=>?_) (fun e1=>?_)
 ·have hrow2:((fR Fs).set i [I fa,I fc,I fc])[i]?=some [I fa,I fc,I fc]:=by rw[List.getElem?_set_self (by omega)]
  refine ZZ ?_
  refine zc [(0,none),(1,none),(2,none),(3,none),(4,none),(5,none),(6,none),(7,none),(8,none),(9,none),(10,none),(11,none),(12,some [1]),(13,none),(14,none),(15,some [])] zo (by kernel_rfl) ?_
  refine WQ ?_
  all_goals exact zQ1 [some 0,some 1,some 2,some 3] (fun _=>[strm v zs _,.box [.o 2 0 (V).length cv,.o 3 0 (Fs.set i ⟨fa,fc,fb⟩).length cf],.arr 90 3 cv (vR (V)),.arr 97 3 cf (fR (Fs.set i ⟨fa,fc,fb⟩))]) (.inr rfl) rfl (by decide) (ZNK rfl) ZCH (fun _=>⟨_,V,Fs.set i ⟨fa,fc,fb⟩,cf,rfl,rfl,by omega,by omega,by simp,by simp⟩)
 refine WA ?_
 refine zl rfl (fun e2=>?_) (fun e2=>?_)
 ·refine ZZ ?_
  refine zc [(0,none),(1,none),(2,none),(3,none),(4,none),(5,none),(6,none),(7,none),(8,none),(9,none),(11,none),(10,some [0,1,2,3,11]),(12,some [0,1,2,3]),(13,none),(14,none),(15,some [])] zo (by kernel_rfl) ?_
  refine WP ?_
  refine zY rfl rfl (efm (c:=fun _=>zl5 (↑V.length) _ _ _ hs (by omega) (by omega) (by simp only[in64];omega))) ?_
  rintro F1 H1 ⟨_,_,_,_,⟨rr,rfl,hq,hr1,hr2⟩,hF,hH⟩
  cases hq
  (refine NST hF hH ?_;clear hF hH;rintro rfl rfl)
  obtain⟨j,rfl⟩:∃i:Nat,rr=i:=⟨rr.toNat,by omega⟩
  have hj:=hr2 (by omega)
  clear hr1 hr2
  obtain⟨⟨vx1,vy1,vz1⟩,hzv⟩:∃z,V[j]?=some z:=⟨_,List.getElem?_eq_getElem (by omega)⟩
  have hrv:(vR V)[j]?=some [I vx1,I vy1,I vz1]:=by rw[List.getElem?_map,hzv];rfl
  refine⟨zj (by first|exact zF rfl rfl rfl (zd3 rfl rfl) rfl) (zj (by first|exact zF rfl rfl rfl (zP8 rfl rfl) rfl|exact zF rfl rfl rfl (zj6 rfl rfl) rfl) (zj (by first|exact zF rfl rfl rfl (ZX (KF (t:=29) (f:=0) rfl rfl)) rfl) (zj (by first|exact zF rfl rfl rfl (ZL (KK (t:=26) rfl)) rfl) (zj (by first|exact zF rfl rfl rfl (zd3 rfl rfl) rfl) (zk))))), ?_⟩
  refine zY rfl rfl (efm (c:=fun _=>oddb_v (-100000) 100000 _ _ _ hs (by omega) (by omega) (by omega) (by omega) (by omega) (by omega) (by omega)) (v:=fun _g=>.cons (.p rfl) (.cons (.c rfl) (.cons (.c rfl) .nil)))) ?_
  rintro F1 H1 ⟨_,_,_,_,⟨rr,ar,rfl,hq,hr3,hr4,h64r⟩,hF,hH⟩
  cases hq
  (refine NST hF hH ?_;clear hF hH;rintro rfl rfl)
  refine⟨zj (by first|exact zF rfl rfl rfl (zd3 rfl rfl) rfl) (zj (by first|exact zF rfl rfl rfl (zP8 rfl rfl) rfl|exact zF rfl rfl rfl (zj6 rfl rfl) rfl) (zj (by first|exact zF rfl rfl rfl (ZX (KF (t:=29) (f:=0) rfl rfl)) rfl) (zj (by first|exact zF rfl rfl rfl (ZL (KK (t:=26) rfl)) rfl) (zk)))), ?_⟩
  refine WQ ?_
  all_goals exact zQ1 [some 0,some 1,some 2,some 3] (fun _=>[strm v zs _,.box [.o 2 0 (V.set j ⟨vx1,vy1,rr⟩).length cv,.o 3 0 (Fs).length cf],.arr 90 3 cv (vR (V.set j ⟨vx1,vy1,rr⟩)),.arr 97 3 cf (fR (Fs))]) (.inr rfl) rfl (by decide) (ZNK rfl) ZCH (fun _=>⟨_,V.set j ⟨vx1,vy1,rr⟩,Fs,cf,rfl,rfl,by omega,by omega,by simp,by simp⟩)
 refine WA ?_
 refine zl rfl (fun e3=>?_) (fun e3=>?_)
 ·obtain⟨⟨ga,gb,gc⟩,hg⟩:∃z,Fs[0]?=some z:=⟨_,List.getElem?_eq_getElem (by omega)⟩
  have hrowg:(fR Fs)[0]?=some [I ga,I gb,I gc]:=by rw[List.getElem?_map,hg];rfl
  refine ZZ ?_
  refine zc [(0,none),(1,none),(2,none),(3,none),(4,none),(5,none),(6,none),(7,none),(8,none),(9,none),(10,none),(11,some [0,1,2,3,4]),(12,some [0]),(13,none),(14,none),(15,some [])] zo (by kernel_rfl) ?_
  iterate 9 refine WX2 ?_
  refine ZT rfl (zP4 (i:=0) rfl (KE (t:=27) rfl) rfl rfl rfl (by omega) (by omega)) ?_
  refine WP ?_
  refine zY rfl rfl (Zapp (KA (t:=27) rfl)) ?_
  rintro _ _ ⟨_,cc,hcc,rfl,rfl⟩
  refine⟨zj (by first|exact zF rfl rfl rfl (zd3 rfl rfl) rfl) (zk), ?_⟩
  refine WQ ?_
  all_goals exact zQ1 [some 0,some 1,some 2,some 3] (fun _=>[strm v zs _,.box [.o 2 0 (V).length cv,.o 3 0 (Fs++[(⟨ga,gb,gc⟩:Fac3)]).length cc],.arr 90 3 cv (vR (V)),.arr 97 3 cc (fR (Fs++[(⟨ga,gb,gc⟩:Fac3)]))]) (.inr rfl) rfl (by decide) (ZNK rfl) ZCH (fun _=>⟨_,V,Fs++[(⟨ga,gb,gc⟩:Fac3)],cc,rfl,rfl,by omega,by omega,by simp,by simp⟩)
 obtain⟨ja,hja⟩:∃i:Nat,fa=i:=⟨fa.toNat,by omega⟩
 obtain⟨jb,hjb⟩:∃i:Nat,fb=i:=⟨fb.toNat,by omega⟩
 subst hja;subst hjb
 obtain⟨⟨vx1,vy1,vz1⟩,hzv⟩:∃z,V[ja]?=some z:=⟨_,List.getElem?_eq_getElem (by omega)⟩
 have hrv:(vR V)[ja]?=some [I vx1,I vy1,I vz1]:=by rw[List.getElem?_map,hzv];rfl
 obtain⟨⟨vx2,vy2,vz2⟩,hzw⟩:∃z,V[jb]?=some z:=⟨_,List.getElem?_eq_getElem (by omega)⟩
 have hrw:(vR V)[jb]?=some [I vx2,I vy2,I vz2]:=by rw[List.getElem?_map,hzw];rfl
 refine ZZ ?_
 refine zc [(0,none),(1,none),(2,none),(3,none),(4,none),(5,none),(6,none),(7,none),(8,none),(9,none),(10,none),(11,none),(12,none),(13,none),(14,none),(15,none),(16,none),(17,none),(18,none),(19,some [])] zo (by kernel_rfl) ?_
 refine WQ ?_
 all_goals exact zQ1 [some 0,some 1,some 2,some 3] (fun _=>[strm v zs _,.box [.o 2 0 (V.set ja ⟨vx2,vy2,vz2⟩).length cv,.o 3 0 (Fs).length cf],.arr 90 3 cv (vR (V.set ja ⟨vx2,vy2,vz2⟩)),.arr 97 3 cf (fR (Fs))]) (.inr rfl) rfl (by decide) (ZNK rfl) ZCH (fun _=>⟨_,V.set ja ⟨vx2,vy2,vz2⟩,Fs,cf,rfl,rfl,by omega,by omega,by simp,by simp⟩)
end Go.Proofs.YtophoepbedlhjaaGreatDoor
