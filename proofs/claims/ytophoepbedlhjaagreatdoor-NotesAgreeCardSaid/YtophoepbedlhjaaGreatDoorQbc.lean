/- Maps in the logic: an entry is taken away. -/
import Derived.Test.YtophoepbedlhjaaGreatDoorQaz
import Derived.Test.YtophoepbedlhjaaGreatDoorQba
import Derived.Test.YtophoepbedlhjaaGreatDoorQbb
import Derived.Test.YtophoepbedlhjaaGreatDoorQay
import Derived.Test.YtophoepbedlhjaaGreatDoorQax
import Derived.Test.YtophoepbedlhjaaGreatDoorQal
set_option linter.unusedSimpArgs false
set_option linter.unusedVariables false
-- NEWM
namespace Go.Proofs.YtophoepbedlhjaaGreatDoor
open Go Go.RowKit
set_option maxRecDepth 1000000
theorem zW15:∃i:TypeInfo,Tryz.prog.info? 5=some i∧i.zero=some (.int .u8 0)∧i.size=1∧i.bytes=1:=by
 have h:(Tryz.prog.info? 5).map (fun i=>(i.zero,i.size,i.bytes))=some (some (.int .u8 0),1,1):=by kernel_rfl
 obtain⟨i,hi,he⟩:=Option.map_eq_some_iff.1 h
 simp only[Prod.mk.injEq] at he
 exact⟨i,hi,he.1,he.2.1,he.2.2⟩
theorem zT11 {P:Program} {N:Nat} {E:Env} {F:Fm} {H:List OB} {o:Oper} {x y:Operand} {t t2:TypeId} {z:Int} (hz:z=0) (ho:o.op = .call { callee:=.builtin .unsafeString,args:=#[x,y],argTypes:=#[t,t2] }) (hx:ev F x=some (.c (.s (.pointer none)))) (hy:ev F y=some (.c (.s (.int .i64 z)))):Rd P N E o F H (.c (T [])):=by
 subst hz
 exact zC13 ho hx hy
theorem zK10 (A:AV) (c:Nat) (l s:List UInt8) (hA:A=pnil∨A = .p 0 0 0) (hl:l.length≤1000000) (hs:s.length≤1000000):ACalls Tryz.prog 74 [.p 0 0 0,.c (T s)] [bldB A 1 l.length c,bldA c l] fun u H=>∃c',u = .t [.c (I s.length),.c (.s .nilIface)]∧H = [bldB (.p 0 0 0) 1 (l++s).length c',bldA c' (l++s)]∧(l++s).length≤c':=by
 have eu:(uR l).length=l.length:=by simp
 have hcv:∀g:AV→Value,CvH g [some 0,some 1] [bldB A 1 l.length c,bldA c l] false [some 0,some 1] [bldB A 1 l.length c,bldA c l]:=fun g=>by
  rcases hA with rfl|rfl
  ·exact .oth rfl (.boxt (.cons (.c rfl) (.cons (.o rfl rfl) .nil))) (.arr rfl rfl .nil)
  ·exact .oth rfl (.boxt (.cons (.p rfl) (.cons (.o rfl rfl) .nil))) (.arr rfl rfl .nil)
 refine zG false (N:=19) Tryz.func74 rfl rfl (by simp) fun E hE hP=>?_
 refine WA ?_
 refine WR ?_
 refine ze rfl (zQ [0,1] (fun _=>[bldB A 1 l.length c,bldA c l]) false (fun _=>zm9 A l.length c l hA) rfl .fn rfl (by decide) (by kernel_rfl) rfl (fun _=>.cons (.p rfl) .nil) (by decide) hcv (by simp)) ?_
 rintro F1 H1 ⟨_,_,_,_,⟨rfl,rfl⟩,hF,hH⟩
 rw[zF] at hF;(refine NSU hF hH ?_;clear hF hH;rintro rfl rfl)
 refine WE ?_
 refine WR ?_
 refine ze rfl (zh16 (b:=1) (n:=l.length) (cap:=c) (l:=s) (rows:=uR l) (e:=5) rfl rfl (by decide) Tryz.underlying138 Tryz.underlying9 zW15 rfl rfl (by simp) rfl (by omega)) ?_
 rintro F1 H1 ⟨gq,cc,hcc,hF,hH⟩
 rw[List.take_of_length_le (show (uR l).length≤l.length by simp)] at hH
 (refine NSU hF hH ?_;clear hF hH;rintro rfl rfl)
 iterate 2 refine WX1 ?_
 refine ze rfl (zt8 rfl rfl rfl rfl rfl (KS (t:=138) rfl) rfl (by simp) rfl rfl) ?_
 rintro _ _ ⟨rfl,rfl⟩
 refine WE ?_
 refine WA ?_
 exact zA (us:=[.c (I s.length),.c (.s .nilIface)]) [some 0,some 1] (fun _=>.t [.c (I s.length),.c (.s .nilIface)]) (fun _=>[bldB (.p 0 0 0) 1 (l++s).length cc,bldA cc (l++s)]) (.tmp rfl (.tmp rfl .nil)) (by decide) (ZNK rfl) (fun _=>.tL (.cons (.c rfl) (.cons (.c rfl) .nil))) (fun _=>.oth rfl (.boxt (.cons (.p rfl) (.cons (.o rfl (by simp)) .nil))) (.arr rfl (by simp[uR]) .nil)) (fun _=>⟨cc,rfl,rfl,by simp at *;omega⟩)
theorem zT17 (A:AV) (c:Nat) (l:List UInt8) (hA:A=pnil∨A = .p 0 0 0):ACallsX true Tryz.prog 98 [.p 0 0 0] [bldB A 1 l.length c,bldA c l] fun u H=>u = .c (I l.length)∧H = [bldB A 1 l.length c,bldA c l]:=by
 refine zG true (N:=8) Tryz.func98 rfl rfl (by simp) fun E hE hP=>?_
 rcases hA with rfl|rfl
 ·repeat' (first
   | refine ZY ?_
   | refine zo rfl (by assumption) ?_|refine zm rfl (by assumption) ?_|refine zl rfl (fun _=>?_) (fun _=>?_)|refine zj rfl (fun _=>?_) (fun _=>?_)
   | (refine zc ?_;refine WE ?_))
  exact arg1 [some 0,some 1] [bldB pnil 1 l.length c,bldA c l] (q:=⟨rfl,rfl⟩)
 ·repeat' (first
   | refine ZY ?_
   | refine zo rfl (by assumption) ?_|refine zm rfl (by assumption) ?_|refine zl rfl (fun _=>?_) (fun _=>?_)|refine zj rfl (fun _=>?_) (fun _=>?_)
   | (refine zc ?_;refine WE ?_))
  exact arg1 [some 0,some 1] [bldB (.p 0 0 0) 1 l.length c,bldA c l] (q:=⟨rfl,rfl⟩)
abbrev bld0:OB:=.boxt 140 [pnil,.c (.r (.slice none 0 0) [])]
theorem zv16:ACallsX true Tryz.prog 98 [.p 0 0 0] [bld0] fun u H=>u = .c (I 0)∧H = [bld0]:=by
 refine zG true (N:=8) Tryz.func98 rfl rfl (by simp) fun E hE hP=>?_
 repeat' (first
  | refine ZY ?_
  | refine zo rfl (by assumption) ?_|refine zm rfl (by assumption) ?_|refine zl rfl (fun _=>?_) (fun _=>?_)|refine zj rfl (fun _=>?_) (fun _=>?_)
  | (refine zc ?_;refine WE ?_))
 exact arg1 [some 0] [bld0] (q:=⟨rfl,rfl⟩)
theorem zM17 {P:Program} {N:Nat} {E:Env} {F:Fm} {H:List OB} {o:Oper} {d:Nat} {x:AV} (hd:o.dst=some d) (hN:d < N) (hr:Rd P N E o F H x):Ef P N E o F H fun F' H'=>F'=(d,x) :: F∧H'=H:=fun S ρ a w hR=>by
 obtain⟨h1,h2⟩:=hr S ρ a w hR
 unfold effO
 rw[h1]
 refine⟨S,ρ,_,_,⟨rfl,rfl⟩, ?_⟩
 rw[hd]
 exact hR.put hN h2
theorem zr16:ACallsX true Tryz.prog 76 [.p 0 0 0] [bld0] fun u H=>u = .c (T [])∧H = [bld0]:=by
 refine zG true (N:=14) Tryz.func76 rfl rfl (by simp) fun E hE hP=>?_
 refine WA ?_
 refine ZZ ?_
 refine zd [(0,none),(1,none),(2,none),(3,none),(4,none),(5,none),(6,none),(7,none),(8,none),(9,none),(10,some []),(11,none)] zn (by kernel_rfl) ?_
 iterate 4 refine WX2 ?_
 refine ZT rfl (zW10 rfl rfl) ?_
 iterate 5 refine WX2 ?_
 refine zt1 rfl rfl (zM17 rfl (by decide) (zT11 (z:=(([]:List (List CV)).length:Int)) rfl rfl rfl rfl)) ?_
 rintro _ _ ⟨rfl,rfl⟩
 refine⟨zh, ?_⟩
 refine WQ ?_
 exact arg1 [some 0] [bld0] (q:=⟨rfl,rfl⟩)
set_option maxHeartbeats 1000000 in
theorem zd11 (x:Nt) (h:ntF x=0):ACallsW TabX false Tryz.prog 97 [noA x] [] fun u H=>u = .c (T (jnF (txW x)))∧H = []:=by
 obtain⟨h1,h2,h3,h4,-⟩:=zS2 h
 obtain⟨w1,w2⟩:=zI9 h
 have hjl:(Lib.join (txW x) [32]).length≤1000000:=by
  have:=zF11 h
  unfold jnF at this
  rw[List.length_append] at this
  omega
 obtain⟨-,-,-,-,-,-,-,u1,u2,-⟩:=zS2 h
 have u3:uM x.kd≤100000000:=by unfold uM;split <;> (try split) <;> omega
 have htx:txW x=([x.st,Lib.itoa x.no,Lib.itoa x.at_,kwA x.kd]++[x.pr,x.jb,x.sp].filter (fun s=>decide (s≠[])))++(if 0 < uM x.kd then [Lib.itoa x.n] else [])++(if uU x.kd=true then [x.of_,Lib.itoa x.ot] else []):=rfl
 generalize txW x=tw at htx hjl w1 w2 ⊢
 obtain⟨st,no,a_,kn,pr,jb,sp,n,of_,ot⟩:=x
 simp only at h2 h3 h4 u1 u2 u3 htx
 obtain⟨kw,hkw⟩:∃kw,kwA kn=kw:=⟨_,rfl⟩
 have hrk:(wR kwL)[kn.toNat]?=some [T kw]:=by
  rw[←hkw]
  rcases(show kn=1∨kn=2∨kn=3∨kn=4∨kn=5∨kn=6∨kn=7 by omega) with rfl|rfl|rfl|rfl|rfl|rfl|rfl <;> rfl
 rw[hkw] at htx
 show ACallsW _ _ _ _ [.a [.c (T st),.c (I no),.c (I a_),.c (I kn),.c (T pr),.c (T jb),.c (T sp),.c (I n),.c (T of_),.c (I ot)]] [] _
 refine zG4 zN6 false (N:=64) Tryz.func97 rfl rfl (by simp) fun E hE hP hX=>?_
 refine WA ?_
 refine ZZ ?_
 refine zd [(0,none),(1,none),(2,none),(3,none),(5,none),(6,none),(9,none),(10,none),(4,some [0,1,5,6,9,10]),(7,some [0,1,9,10]),(8,some [0,1,9,10]),(11,none),(12,none),(13,some []),(14,none)] zn (by kernel_rfl) ?_
 refine WP ?_
 refine zt1 rfl rfl (zK2 TabX (hX _ _) false (fun _=>zn10 no (by omega) (by omega)) rfl .fn rfl (by decide) (by kernel_rfl) rfl (fun _=>C0 rfl) (by simp)) ?_
 rintro _ _ ⟨_,_,_,⟨rfl,rfl⟩,hF,hH⟩
 (refine NST hF hH ?_;clear hF hH;rintro rfl rfl)
 refine⟨zg (by first|exact zu rfl rfl rfl (ZX (KF (t:=37) (f:=0) rfl rfl)) rfl) (zg (by first|exact zu rfl rfl rfl (ZL (KK (t:=9) rfl)) rfl) (zg (by first|exact zu rfl rfl rfl (ZX (KF (t:=37) (f:=2) rfl rfl)) rfl) (zg (by first|exact zu rfl rfl rfl (ZL (KK (t:=3) rfl)) rfl) (zg (by first|exact zu rfl rfl rfl (ZX (KF (t:=37) (f:=3) rfl rfl)) rfl) (zg (by first|exact zu rfl rfl rfl (ZL (KK (t:=3) rfl)) rfl) (zh)))))), ?_⟩
 refine zt1 rfl rfl (zK2 TabX (hX _ _) false (fun _=>zn10 a_ (by omega) (by omega)) rfl .fn rfl (by decide) (by kernel_rfl) rfl (fun _=>C0 rfl) (by simp)) ?_
 rintro _ _ ⟨_,_,_,⟨rfl,rfl⟩,hF,hH⟩
 (refine NST hF hH ?_;clear hF hH;rintro rfl rfl)
 refine⟨zg (by first|exact zu rfl rfl rfl (ZX (KF (t:=37) (f:=0) rfl rfl)) rfl) (zg (by first|exact zu rfl rfl rfl (ZL (KK (t:=9) rfl)) rfl) (zg (by first|exact zu rfl rfl rfl (ZX (KF (t:=37) (f:=3) rfl rfl)) rfl) (zg (by first|exact zu rfl rfl rfl (ZL (KK (t:=3) rfl)) rfl) (zh)))), ?_⟩
 refine zt1 rfl rfl (efk (c:=fun _=>zD5)) ?_
 rintro _ _ ⟨_,_,_,⟨⟨vk,rfl⟩,rfl⟩,hF,hH⟩
 (refine NST hF hH ?_;clear hF hH;rintro rfl rfl)
 refine⟨zg (by first|exact zu rfl rfl rfl (ZX (KF (t:=37) (f:=0) rfl rfl)) rfl) (zg (by first|exact zu rfl rfl rfl (ZL (KK (t:=9) rfl)) rfl) (zg (by first|exact zu rfl rfl rfl (ZX (KF (t:=37) (f:=3) rfl rfl)) rfl) (zg (by first|exact zu rfl rfl rfl (ZL (KK (t:=3) rfl)) rfl) (zh)))), ?_⟩
 refine WQ ?_
 refine ZR ?_
 iterate 6 refine WX1 ?_
 refine ze rfl Ybsr ?_
 rintro _ _ ⟨vst,rfl,rfl⟩
 refine WE ?_
 obtain⟨w4,hw4⟩:∃w4,w4 = [st,Lib.itoa no,Lib.itoa a_,kw]:=⟨_,rfl⟩
 rw[←hw4] at htx
 obtain⟨l3,hl3⟩:∃l3,l3 = [pr,jb,sp]:=⟨_,rfl⟩
 rw[←hl3] at htx
 have hn3:l3.length=3:=by rw[hl3];rfl
 have hn4:w4.length=4:=by rw[hw4];rfl
 refine zq (fun m F H=>∃(k c:Nat),m+k=3∧(w4++(l3.take k).filter (fun s=>decide (s≠[]))).length≤c∧F = [(1,.p 0 0 0),(3,.o 1 0 (w4++(l3.take k).filter (fun s=>decide (s≠[]))).length c),(27,.c (.r vst (wR l3))),(28,.c (I 3)),(29,.c (I k))]∧H = [.box [.c (T st),.c (I no),.c (I a_),.c (I kn),.c (T pr),.c (T jb),.c (T sp),.c (I n),.c (T of_),.c (I ot)],.arr 9 1 c (wR (w4++(l3.take k).filter (fun s=>decide (s≠[]))))]) ?_ ?_
 ·refine wkg [some 0,some 1] (fun _=>[(1,.p 0 0 0),(3,.o 1 0 4 4),(27,.c (.r vst (wR l3))),(28,.c (I 3)),(29,.c (I (0:Nat)))]) (fun _=>[.box [.c (T st),.c (I no),.c (I a_),.c (I kn),.c (T pr),.c (T jb),.c (T sp),.c (I n),.c (T of_),.c (I ot)],.arr 9 1 4 (wR w4)]) (fun _=>⟨3,0,4,rfl,by simp[hn4], ?_, ?_⟩) (hF:=by rw[hl3];exact ZCF) (hH:=by rw[hw4];exact ZCH)
  ·simp[hn4]
  ·simp
 rintro m F H ⟨k,c,hk,hc,rfl,rfl⟩
 have eL:(wR l3).length=3:=by simp[hn3]
 generalize hb:w4++(l3.take k).filter (fun s=>decide (s≠[]))=b at hc ⊢
 have eB:(wR b).length=b.length:=by simp
 have hbl:b.length≤7:=by
  rw[←hb,List.length_append,hn4]
  have h5:=List.length_filter_le (fun s=>decide (s≠[])) (l3.take k)
  rw[List.length_take] at h5
  omega
 refine WA ?_
 refine zl rfl (fun hlt=>?_) (fun hge=>?_)
 ·obtain⟨s,hs⟩:∃s,l3[k]?=some s:=⟨_,List.getElem?_eq_getElem (by omega)⟩
  have hrow:(wR l3)[k]?=some [T s]:=by rw[List.getElem?_map,hs];rfl
  have hnx:w4++(l3.take (k+1)).filter (fun s=>decide (s≠[]))=b++(if s≠[] then [s] else []):=by
   rw[←hb,List.take_add_one,hs,Option.toList_some,List.filter_append,←List.append_assoc]
   congr 1
   by_cases hsn:s = []
   ·subst hsn;rfl
   ·rw[if_pos hsn,List.filter_cons_of_pos (by simpa using hsn)];rfl
  refine WA ?_
  obtain⟨q,hq⟩:∃q,decide (s≠[])=q:=⟨_,rfl⟩
  refine ZR ?_
  refine WX1 ?_
  refine ZA (za1 (b:=[]) hq rfl Tryz.underlying9 rfl rfl) ?_
  refine WE ?_
  cases q with
  | true=>
   rw[if_pos (of_decide_eq_true hq)] at hnx
   refine zb rfl ?_
   refine WR ?_
   refine ze rfl (Zapp (KA (t:=61) rfl)) ?_
   rintro _ _ ⟨_,cc,hcc,rfl,rfl⟩
   refine WE ?_
   refine WA ?_
   refine wkg [some 0,some 1] (fun _=>[(1,.p 0 0 0),(3,.o 1 0 (b.length+1) cc),(27,.c (.r vst (wR l3))),(28,.c (I 3)),(29,.c (I (k+1:Nat)))]) (fun _=>[.box [.c (T st),.c (I no),.c (I a_),.c (I kn),.c (T pr),.c (T jb),.c (T sp),.c (I n),.c (T of_),.c (I ot)],.arr 9 1 cc (wR b++[[T s]])]) (fun _=>⟨m - 1,by omega,k+1,cc,by omega, ?_, ?_, ?_⟩)
   ·rw[hnx];simp;omega
   ·rw[hnx];simp
   ·rw[hnx];simp
  | false=>
   rw[if_neg (of_decide_eq_false hq)] at hnx
   rw[List.append_nil] at hnx
   refine za rfl ?_
   refine WA ?_
   refine wkg [some 0,some 1] (fun _=>[(1,.p 0 0 0),(3,.o 1 0 b.length c),(27,.c (.r vst (wR l3))),(28,.c (I 3)),(29,.c (I (k+1:Nat)))]) (fun _=>[.box [.c (T st),.c (I no),.c (I a_),.c (I kn),.c (T pr),.c (T jb),.c (T sp),.c (I n),.c (T of_),.c (I ot)],.arr 9 1 c (wR b)]) (fun _=>⟨m - 1,by omega,k+1,c,by omega, ?_, ?_, ?_⟩)
   ·rw[hnx];exact hc
   ·rw[hnx]
   ·rw[hnx]
 obtain rfl:k=3:=by omega
 rw[List.take_of_length_le (by omega)] at hb
 rw[hb] at htx
 clear hb hk hge hn3 hl3 hw4 hn4 eL hkw hrk
 refine WR ?_
 refine ze rfl (efk (c:=fun _=>zI6 kn)) ?_
 rintro _ _ ⟨_,_,_,⟨rfl,rfl⟩,hF,hH⟩
 rw[show usA kn = .a [.c (B (uP kn)),.c (B (uJ kn)),.c (B (uS kn)),.c (B (uU kn)),.c (I (uM kn))] from rfl] at hF
 (refine NST hF hH ?_;clear hF hH;rintro rfl rfl)
 refine WE ?_
 refine WA ?_
 refine zE1 (fun F H=>∃(b2:List (List UInt8)) (c2:Nat),b2=b++(if 0 < uM kn then [Lib.itoa n] else [])∧b2.length≤c2∧b2.length≤8∧F = [(1,.p 0 0 0),(3,.o 1 0 b2.length c2),(6,.p 2 0 0)]∧H = [.box [.c (T st),.c (I no),.c (I a_),.c (I kn),.c (T pr),.c (T jb),.c (T sp),.c (I n),.c (T of_),.c (I ot)],.arr 9 1 c2 (wR b2),.box [.c (B (uP kn)),.c (B (uJ kn)),.c (B (uS kn)),.c (B (uU kn)),.c (I (uM kn))]]) ?_ ?_ zV2
 ·refine zl rfl (fun hq=>?_) (fun hq=>?_)
  ·have hu:=u2 hq
   rw[if_pos hq]
   refine WR ?_
   refine ze rfl (zK2 TabX (hX _ _) false (fun _=>zn10 n (by omega) (by omega)) rfl .fn rfl (by decide) (by kernel_rfl) rfl (fun _=>C0 rfl) (by simp)) ?_
   rintro _ _ ⟨_,_,_,⟨rfl,rfl⟩,hF,hH⟩
   (refine NST hF hH ?_;clear hF hH;rintro rfl rfl)
   refine WO ?_
   refine ze rfl (Zapp (KA (t:=61) rfl)) ?_
   rintro _ _ ⟨_,cc,hcc,rfl,rfl⟩
   refine WE ?_
   exact wkg [some 0,some 1,some 2] (fun _=>[(1,.p 0 0 0),(3,.o 1 0 (b.length+1) cc),(6,.p 2 0 0)]) (fun _=>[.box [.c (T st),.c (I no),.c (I a_),.c (I kn),.c (T pr),.c (T jb),.c (T sp),.c (I n),.c (T of_),.c (I ot)],.arr 9 1 cc (wR b++[[T (Lib.itoa n)]]),.box [.c (B (uP kn)),.c (B (uJ kn)),.c (B (uS kn)),.c (B (uU kn)),.c (I (uM kn))]]) (fun _=>⟨_,cc,rfl,by simp;omega,by simp;omega,by simp,by simp⟩)
  ·rw[if_neg hq,List.append_nil]
   refine ZZ ?_
   exact wkg [some 0,some 1,some 2] (fun _=>[(1,.p 0 0 0),(3,.o 1 0 b.length c),(6,.p 2 0 0)]) (fun _=>[.box [.c (T st),.c (I no),.c (I a_),.c (I kn),.c (T pr),.c (T jb),.c (T sp),.c (I n),.c (T of_),.c (I ot)],.arr 9 1 c (wR b),.box [.c (B (uP kn)),.c (B (uJ kn)),.c (B (uS kn)),.c (B (uU kn)),.c (I (uM kn))]]) (fun _=>⟨_,c,rfl,hc,by omega,rfl,rfl⟩)
 rintro F H ⟨b2,c2,hb2,hc2,hl2,rfl,rfl⟩
 rw[←hb2] at htx
 have eB2:(wR b2).length=b2.length:=by simp
 refine WA ?_
 refine zE1 (fun F H=>∃(c3:Nat),tw.length≤c3∧F = [(1,.p 0 0 0),(3,.o 1 0 tw.length c3)]∧H = [.box [.c (T st),.c (I no),.c (I a_),.c (I kn),.c (T pr),.c (T jb),.c (T sp),.c (I n),.c (T of_),.c (I ot)],.arr 9 1 c3 (wR tw)]) ?_ ?_ zV2
 ·rw[htx]
  cases hq:uU kn with
  | true=>
   have hu:=u1 hq
   refine zb rfl ?_
   refine ZZ ?_
   refine zd [(0,none),(1,none),(2,none),(3,none),(4,none),(5,some [0,1,2]),(6,some [0]),(7,some []),(8,none)] zn (by kernel_rfl) ?_
   refine WP ?_
   refine zt1 rfl rfl (zK2 TabX (hX _ _) false (fun _=>zn10 ot (by omega) (by omega)) rfl .fn rfl (by decide) (by kernel_rfl) rfl (fun _=>C0 rfl) (by simp)) ?_
   rintro _ _ ⟨_,_,_,⟨rfl,rfl⟩,hF,hH⟩
   (refine NST hF hH ?_;clear hF hH;rintro rfl rfl)
   refine⟨zg (by first|exact zu rfl rfl rfl (zd3 rfl rfl) rfl) (zg (by first|exact zu rfl rfl rfl (ZX (KF (t:=37) (f:=8) rfl rfl)) rfl) (zg (by first|exact zu rfl rfl rfl (ZL (KK (t:=9) rfl)) rfl) (zh))), ?_⟩
   refine WP ?_
   refine zt1 rfl rfl (Zapp (KA (t:=61) rfl)) ?_
   rintro _ _ ⟨_,cc,hcc,rfl,rfl⟩
   refine⟨zh, ?_⟩
   refine WQ ?_
   exact wkg [some 0,some 1] (fun _=>[(1,.p 0 0 0),(3,.o 1 0 (b2.length+2) cc)]) (fun _=>[.box [.c (T st),.c (I no),.c (I a_),.c (I kn),.c (T pr),.c (T jb),.c (T sp),.c (I n),.c (T of_),.c (I ot)],.arr 9 1 cc (wR b2++[[T of_],[T (Lib.itoa ot)]])]) (fun _=>⟨cc,by simp;omega,by simp,by simp⟩)
  | false=>
   refine za rfl ?_
   refine ZZ ?_
   exact wkg [some 0,some 1] (fun _=>[(1,.p 0 0 0),(3,.o 1 0 b2.length c2)]) (fun _=>[.box [.c (T st),.c (I no),.c (I a_),.c (I kn),.c (T pr),.c (T jb),.c (T sp),.c (I n),.c (T of_),.c (I ot)],.arr 9 1 c2 (wR b2)]) (fun _=>⟨c2,by simp;omega,by simp,by simp⟩)
 rintro F H ⟨c3,hc3,rfl,rfl⟩
 refine WR ?_
 refine ze rfl (zz true (fun g=>zS15 (g (.o 1 0 tw.length c3)) tw hjl (by omega)) rfl .fn rfl (by decide) (by kernel_rfl) rfl (fun _=>.cons (.frz rfl rfl (by rw[List.drop_zero,List.take_of_length_le (by simp)]) (by simp) rfl) .nil) (fun _ _ _ _ ⟨hu,hH⟩=>by rw[hu,hH];exact⟨.c (.inl trivial),by simp⟩)) ?_
 rintro _ _ ⟨_,_,_,⟨rfl,rfl⟩,hF,hH⟩
 (refine NST hF hH ?_;clear hF hH;rintro rfl rfl)
 refine WE ?_
 exact arz (q:=⟨rfl,rfl⟩)
theorem zw13 {l:List Nt} {k:Nat} {x:Nt} (h:l[k]?=some x):txF (l.take (k+1))=txF (l.take k)++jnF (txW x):=by
 unfold txF
 rw[List.take_add_one,h,Option.toList_some,List.map_append,List.flatten_append]
 simp
theorem zb15 {l:List Nt} (h:l≠[]):0 < (txF l).length:=by
 cases l with
 | nil=>exact absurd rfl h
 | cons x l=>
  unfold txF
  rw[List.map_cons,List.flatten_cons,List.length_append]
  have:0 < (jnF (txW x)).length:=by unfold jnF;simp
  omega
set_option maxHeartbeats 1000000 in
theorem zQ16 (v:Value) (l:List Nt) (hl:l.length≤1000000) (hs:∀x∈l,NtS x) (hll:l.length≤400):ACallsW TabX false Tryz.prog 37 [.c (.r v (noRs l))] [] fun u H=>u = .t [.c (T (if chkN l=0 then txF l else [])),.c (I (chkN l))]∧H = []:=by
 have eL:(noRs l).length=l.length:=by simp
 refine zG4 zN6 false (N:=26) Tryz.func37 rfl rfl (by simp) fun E hE hP hX=>?_
 refine WA ?_
 refine WR ?_
 refine ze rfl (efk (c:=fun _=>za2 v l hl hs)) ?_
 rintro _ _ ⟨_,_,_,⟨rfl,rfl⟩,hF,hH⟩
 (refine NST hF hH ?_;clear hF hH;rintro rfl rfl)
 refine WE ?_
 obtain⟨e,he⟩:∃e,chkN l=e:=⟨_,rfl⟩
 rw[he]
 refine WA ?_
 refine zl rfl (fun h0=>?_) (fun h0=>?_)
 ·rw[if_neg h0]
  refine WA ?_
  exact zF1 [] _ rfl rfl rfl rfl rfl (by decide) (ZNK rfl) (fun _=>.nil) ⟨rfl,rfl⟩
 obtain rfl:e=0:=Decidable.not_not.1 h0
 rw[if_pos rfl]
 have hn:=(chkN_pw.1 he).2.1
 have htl:=zL6 hn
 refine ZR ?_
 refine ze rfl (zN12 (z:=.agg #[.pointer none,.slice none 0 0]) (vs:=[.pointer none,.slice none 0 0]) rfl rfl (by decide) (by kernel_rfl) rfl rfl) ?_
 rintro _ _ ⟨rfl,rfl⟩
 refine WE ?_
 refine WA ?_
 by_cases hne:l = []
 ·subst hne
  refine zq (fun m F H=>F = [(5,.p 0 0 0),(13,.c (.r v [])),(14,.c (I 0)),(15,.c (I 0))]∧H = [bld0]) ?_ ?_
  ·refine wkg [some 0] (fun _=>[(5,.p 0 0 0),(13,.c (.r v [])),(14,.c (I 0)),(15,.c (I 0))]) (fun _=>[bld0]) (fun _=>⟨0,rfl,rfl⟩)
  rintro m F H ⟨rfl,rfl⟩
  refine WA ?_
  refine za rfl ?_
  refine ZR ?_
  refine ze rfl (zQ [0] (fun _=>[bld0]) false (fun _=>zv16) rfl .fn rfl (by decide) (by kernel_rfl) rfl (fun _=>.cons (.p rfl) .nil) (by decide) ZCH (by simp)) ?_
  rintro F1 H1 ⟨_,_,_,_,⟨rfl,rfl⟩,hF,hH⟩
  rw[zF] at hF
  (refine NSU hF hH ?_;clear hF hH;rintro rfl rfl)
  refine WE ?_
  refine za rfl ?_
  refine ZR ?_
  refine ze rfl (zQ [0] (fun _=>[bld0]) false (fun _=>zr16) rfl .fn rfl (by decide) (by kernel_rfl) rfl (fun _=>.cons (.p rfl) .nil) (by decide) ZCH (by simp)) ?_
  rintro F1 H1 ⟨_,_,_,_,⟨rfl,rfl⟩,hF,hH⟩
  rw[zF] at hF
  (refine NSU hF hH ?_;clear hF hH;rintro rfl rfl)
  refine WE ?_
  exact zF1 [] _ rfl rfl rfl rfl rfl (by decide) (ZNK rfl) (fun _=>.nil) ⟨rfl,rfl⟩
 refine zq (fun m F H=>∃(k c:Nat) (A:AV),m+k=l.length∧(A=pnil∧k=0∨A = .p 0 0 0)∧(txF (l.take k)).length≤c∧F = [(5,.p 0 0 0),(13,.c (.r v (noRs l))),(14,.c (I (noRs l).length)),(15,.c (I k))]∧H = [bldB A 1 (txF (l.take k)).length c,bldA c (txF (l.take k))]) ?_ ?_
 ·refine wkg [some 0,none] (fun _=>[(5,.p 0 0 0),(13,.c (.r v (noRs l))),(14,.c (I (noRs l).length)),(15,.c (I (0:Nat)))]) (fun _=>[bldB pnil 1 0 0,bldA 0 []]) (fun _=>⟨l.length,0,0,pnil,rfl,.inl ⟨rfl,rfl⟩,Nat.le_refl _,rfl,rfl⟩)
 rintro m F H ⟨k,c,A,hk,hA,hc,rfl,rfl⟩
 have hPl:(txF (l.take k)).length≤410*k:=by
  have:=zL6 (l:=l.take k) fun x hx=>hn x (List.mem_of_mem_take hx)
  rw[List.length_take] at this
  omega
 refine WA ?_
 refine zl rfl (fun hlt=>?_) (fun hge=>?_)
 ·obtain⟨x,hx⟩:∃x,l[k]?=some x:=⟨_,List.getElem?_eq_getElem (by omega)⟩
  have hxn:=hn x (List.mem_of_getElem? hx)
  have hnx:=zw13 hx
  obtain⟨jx,hjx⟩:∃jx,jnF (txW x)=jx:=⟨_,rfl⟩
  have hjl:=zF11 hxn
  rw[hjx] at hnx hjl
  have hrow0:=zC1 hx
  generalize txF (l.take k)=P at hnx hc hPl ⊢
  obtain⟨st,no,a_,kn,pr,jb,sp,n,of_,ot⟩:=x
  have hrow:(noRs l)[k]?=some [T st,I no,I a_,I kn,T pr,T jb,T sp,I n,T of_,I ot]:=hrow0
  refine WA ?_
  have hcv:∃A',(A'=pnil∨A' = .p 0 0 0)∧∀g':AV→Value,CvH g' [some 0,some 1] [bldB A 1 P.length c,bldA c P,.box [.c (T st),.c (I no),.c (I a_),.c (I kn),.c (T pr),.c (T jb),.c (T sp),.c (I n),.c (T of_),.c (I ot)]] false [some 0,some 1] [bldB A' 1 P.length c,bldA c P]:=by
   rcases hA with⟨rfl,_⟩|rfl
   ·exact⟨pnil,.inl rfl,fun _=>.oth rfl (.boxt (.cons (.c rfl) (.cons (.o rfl rfl) .nil))) (.arr rfl rfl .nil)⟩
   ·exact⟨.p 0 0 0,.inr rfl,fun _=>.oth rfl (.boxt (.cons (.p rfl) (.cons (.o rfl rfl) .nil))) (.arr rfl rfl .nil)⟩
  obtain⟨A',hA',hcv⟩:=hcv
  refine WR ?_
  refine ze rfl (zK2 TabX (hX _ _) false (fun _=>zd11 _ hxn) rfl .fn rfl (by decide) (by kernel_rfl) rfl (fun _=>C0 rfl) (by simp)) ?_
  rintro _ _ ⟨_,_,_,⟨rfl,rfl⟩,hF,hH⟩
  rw[hjx] at hF
  (refine NST hF hH ?_;clear hF hH;rintro rfl rfl)
  refine ze rfl (zO [0,1] (fun _=>[bldB A' 1 P.length c,bldA c P]) false (fun _=>zK10 A' c P jx hA' (by omega) (by omega)) rfl .fn rfl (by decide) (by kernel_rfl) rfl (fun _=>.cons (.p rfl) (.cons (.c rfl) .nil)) (by decide) hcv (by simp) (.inl ⟨_,hE,rfl⟩)) ?_
  rintro F1 H1 ⟨_,_,_,_,⟨cc,rfl,rfl,hcc⟩,hF,hH⟩
  (refine NSU hF hH ?_;clear hF hH;rintro rfl rfl)
  refine WE ?_
  refine WA ?_
  refine wkg [some 0,some 1] (fun _=>[(5,.p 0 0 0),(13,.c (.r v (noRs l))),(14,.c (I (noRs l).length)),(15,.c (I (k+1:Nat)))]) (fun _=>[bldB (.p 0 0 0) 1 (P++jx).length cc,bldA cc (P++jx)]) (fun _=>⟨m - 1,by omega,k+1,cc,.p 0 0 0,by omega,.inr rfl, ?_,rfl, ?_⟩) (hH:=fun _=>.oth rfl (.boxt (.cons (.p rfl) (.cons (.o rfl rfl) .nil))) (.arr rfl rfl .nil))
  ·rw[hnx];exact hcc
  ·rw[hnx]
 ·obtain rfl:k=l.length:=by omega
  rw[List.take_length] at hc hPl ⊢
  have hpos:=zb15 hne
  have hl0:0 < l.length:=List.length_pos_iff.2 hne
  obtain rfl:A = .p 0 0 0:=hA.resolve_left fun h=>by omega
  generalize txF l=P at hpos hc hPl ⊢
  have hsm:¬(200000:Int) < (P.length:Int):=by omega
  refine ZR ?_
  refine ze rfl (zQ [0,1] (fun _=>[bldB (.p 0 0 0) 1 P.length c,bldA c P]) false (fun _=>zT17 (.p 0 0 0) c P (.inr rfl)) rfl .fn rfl (by decide) (by kernel_rfl) rfl (fun _=>.cons (.p rfl) .nil) (by decide) (fun _=>.oth rfl (.boxt (.cons (.p rfl) (.cons (.o rfl rfl) .nil))) (.arr rfl rfl .nil)) (by simp)) ?_
  rintro F1 H1 ⟨_,_,_,_,⟨rfl,rfl⟩,hF,hH⟩
  rw[zF] at hF
  (refine NSU hF hH ?_;clear hF hH;rintro rfl rfl)
  refine WE ?_
  refine za rfl ?_
  refine ZR ?_
  refine ze rfl (zO [0,1] (fun _=>[bldB (.p 0 0 0) 1 P.length c,bldA c P]) false (fun _=>za13 (.p 0 0 0) c P (by omega) (by omega) hc rfl) rfl .fn rfl (by decide) (by kernel_rfl) rfl (fun _=>.cons (.p rfl) .nil) (by decide) (fun _=>.oth rfl (.boxt (.cons (.p rfl) (.cons (.o rfl rfl) .nil))) (.arr rfl rfl .nil)) (by simp) (.inl ⟨_,hE,rfl⟩)) ?_
  rintro F1 H1 ⟨_,_,_,_,⟨rfl,z,rfl⟩,hF,hH⟩
  (refine NSU hF hH ?_;clear hF hH;rintro rfl rfl)
  refine WE ?_
  exact zF1 [] _ rfl rfl rfl rfl rfl (by decide) (ZNK rfl) (fun _=>.nil) ⟨rfl,rfl⟩
end Go.Proofs.YtophoepbedlhjaaGreatDoor
-- NEWM
namespace Go.Proofs.YtophoepbedlhjaaGreatDoor
open Go Go.RowKit
set_option maxRecDepth 100000
theorem zr7 (v w:Value) (a b:List Nt) (ha:a.length≤1000000) (hb:b.length≤1000000):ACalls Tryz.prog 40 [.c (.r v (noRs a)),.c (.r w (noRs b))] [] fun u H=>u = .c (B (decide (a=b)))∧H = []:=by
 have e1:(noRs a).length=a.length:=by simp
 have e2:(noRs b).length=b.length:=by simp
 refine zf (N:=26) Tryz.func40 rfl rfl (by simp) fun E hE=>?_
 refine WA ?_
 refine WA ?_
 refine zl rfl (fun h0=>?_) (fun h0=>?_)
 ·refine WA ?_
  exact arz (q:=⟨by rw[decide_eq_false (fun h=>h0 (by rw[h]))],rfl⟩)
 have hlen:a.length=b.length:=by omega
 refine WA ?_
 refine zq (fun m F H=>∃(k:Nat),m+k=a.length∧a.take k=b.take k∧F = [(0,.c (.r v (noRs a))),(1,.c (.r w (noRs b))),(12,.c (I (noRs a).length)),(13,.c (I k))]∧H = []) ?_ ?_
 ·refine wkg [] (fun _=>[(0,.c (.r v (noRs a))),(1,.c (.r w (noRs b))),(12,.c (I (noRs a).length)),(13,.c (I (0:Nat)))]) (fun _=>[]) (fun _=>?_) (hH:=fun _=>.nil)
  exact⟨a.length,0,by omega,rfl,rfl,rfl⟩
 rintro m F H ⟨k,hk,hf,rfl,rfl⟩
 refine WA ?_
 refine zl rfl (fun hlt=>?_) (fun hge=>?_)
 ·obtain⟨x,hx⟩:∃n,a[k]?=some n:=⟨_,List.getElem?_eq_getElem (by omega)⟩
  obtain⟨y,hy⟩:∃n,b[k]?=some n:=⟨_,List.getElem?_eq_getElem (by omega)⟩
  have hrx0:=zC1 hx
  have hry0:=zC1 hy
  obtain⟨q,hq⟩:∃q,decide (¬x=y)=q:=⟨_,rfl⟩
  have hta:a.take (k+1)=a.take k++[x]:=by rw[List.take_add_one,hx];rfl
  have htb:b.take (k+1)=b.take k++[y]:=by rw[List.take_add_one,hy];rfl
  obtain⟨x0,x1,x2,x3,x4,x5,x6,x7,x8,x9⟩:=x
  obtain⟨y0,y1,y2,y3,y4,y5,y6,y7,y8,y9⟩:=y
  have hrx:(noRs a)[k]?=some [T x0,I x1,I x2,I x3,T x4,T x5,T x6,I x7,T x8,I x9]:=hrx0
  have hry:(noRs b)[k]?=some [T y0,I y1,I y2,I y3,T y4,T y5,T y6,I y7,T y8,I y9]:=hry0
  refine WA ?_
  refine ZZ ?_
  refine zd [(0,none),(1,none),(2,none),(3,none),(4,none),(5,none),(6,none),(7,none),(8,none)] zn (by kernel_rfl) ?_
  iterate 8 refine WX2 ?_
  refine ZT rfl (zO8 (a:=⟨x0,x1,x2,x3,x4,x5,x6,x7,x8,x9⟩) (b:=⟨y0,y1,y2,y3,y4,y5,y6,y7,y8,y9⟩) hq rfl rfl rfl) ?_
  refine WQ ?_
  cases q with
  | true=>
   refine zb rfl ?_
   refine WA ?_
   refine arz (q:=⟨?_,rfl⟩)
   rw[decide_eq_false]
   intro h
   rw[h,hy] at hx
   exact of_decide_eq_true hq (Option.some.inj hx).symm
  | false=>
   refine za rfl ?_
   refine WA ?_
   refine wkg [] (fun _=>[(0,.c (.r v (noRs a))),(1,.c (.r w (noRs b))),(12,.c (I (noRs a).length)),(13,.c (I (k+1:Nat)))]) (fun _=>[]) (fun _=>?_) (hH:=fun _=>.nil)
   exact⟨m - 1,by omega,k+1,by omega,by rw[hta,htb,hf,Decidable.not_not.1 (of_decide_eq_false hq)],rfl,rfl⟩
 rw[List.take_of_length_le (by omega),List.take_of_length_le (by omega)] at hf
 refine WA ?_
 exact arz (q:=⟨by rw[decide_eq_true hf],rfl⟩)
end Go.Proofs.YtophoepbedlhjaaGreatDoor
namespace Go.Proofs.YtophoepbedlhjaaGreatDoor
open Go Go.RowKit
abbrev SE:=List (Nat × Spot × Bool)
structure SetOk (es:SE) (ck:Nat) (L:List Spot):Prop where
 hv:∀e∈es,e.2.2=true
 hb:∀e∈es,e.1 < ck
 nb:(es.map (·.1)).Nodup
 nk:(es.map (·.2.1)).Nodup
 hm:∀p,p∈es.map (·.2.1)↔p∈L
theorem SetOk.nil:SetOk [] 0 []:=⟨fun e h=>(by cases h),fun e h=>(by cases h),.nil,.nil,fun p=>Iff.rfl⟩
theorem SetOk.to {es:SE} {ck:Nat} {L L':List Spot} (h:SetOk es ck L) (hL:∀p,p∈L↔p∈L'):SetOk es ck L':=⟨h.hv,h.hb,h.nb,h.nk,fun p=>(h.hm p).trans (hL p)⟩
theorem mget_no {es:SE} {p:Spot}:mget es p=none↔p∉es.map (·.2.1):=by
 induction es with
 | nil=>simp[mget]
 | cons e es ih=>
  simp only[mget,List.map_cons,List.mem_cons]
  split
  ·rename_i h;simp[h]
  ·rename_i h;rw[ih];simp[h]
theorem zM15 {es:SE} {p:Spot} (hv:∀e∈es,e.2.2=true):(mget es p).getD false=decide (p∈es.map (·.2.1)):=by
 induction es with
 | nil=>simp[mget]
 | cons e es ih=>
  simp only[mget,List.map_cons,List.mem_cons]
  split
  ·rename_i h;simp[h,hv e List.mem_cons_self]
  ·rename_i h;rw[ih fun e he=>hv e (List.mem_cons_of_mem _ he)];simp[h]
theorem SetOk.get {es:SE} {ck:Nat} {L:List Spot} (h:SetOk es ck L) (p:Spot):(mget es p).getD false=decide (p∈L):=by
 rw[zM15 h.hv];simp only[h.hm]
theorem zf8 {ck:Nat} {p:Spot}:∀{es:SE},(∀e∈es,e.2.2=true)→p∈es.map (·.2.1)→mset ck p true es=es
 | [],_,h=>by simp at h
 | e :: es,hv,h=>by
  unfold mset
  split
  ·rename_i hp
   have:=hv e List.mem_cons_self
   obtain⟨a,b,c⟩:=e
   simp only at hp this ⊢
   rw[hp,this]
  ·rename_i hp
   rw[zf8 (fun e he=>hv e (List.mem_cons_of_mem _ he)) (by rw[List.map_cons,List.mem_cons] at h;exact h.resolve_left hp)]
theorem SetOk.set {es:SE} {ck:Nat} {L:List Spot} (h:SetOk es ck L) (p:Spot):SetOk (mset ck p true es) (mclk ck p es) (L++[p]):=by
 by_cases hp:p∈es.map (·.2.1)
 ·have hs:(mget es p).isSome=true:=by
   cases hg:mget es p with
   | some v=>rfl
   | none=>exact absurd hp (mget_no.1 hg)
  rw[zf8 h.hv hp,mclk,if_pos hs]
  refine h.to fun q=>?_
  rw[List.mem_append,List.mem_singleton]
  constructor
  ·exact .inl
  ·rintro(hq|rfl)
   ·exact hq
   ·exact(h.hm q).1 hp
 ·have hn:=mget_no.2 hp
  rw[zD2 hn,mclk,if_neg (by rw[hn];simp)]
  refine⟨fun e he=>?_,fun e he=>?_, ?_, ?_,fun q=>?_⟩
  ·rcases List.mem_append.1 he with he|he
   ·exact h.hv e he
   ·rw[List.mem_singleton] at he;rw[he]
  ·rcases List.mem_append.1 he with he|he
   ·exact Nat.lt_succ_of_lt (h.hb e he)
   ·rw[List.mem_singleton] at he;rw[he];exact Nat.lt_succ_self _
  ·rw[List.map_append]
   refine List.nodup_append.2 ⟨h.nb,by simp,fun a ha b hb e=>?_⟩
   simp only[List.map_cons,List.map_nil,List.mem_singleton] at hb
   obtain⟨e',he',rfl⟩:=List.mem_map.1 ha
   have:=h.hb e' he'
   omega
  ·rw[List.map_append]
   refine List.nodup_append.2 ⟨h.nk,by simp,fun a ha b hb e=>?_⟩
   simp only[List.map_cons,List.map_nil,List.mem_singleton] at hb
   exact hp (by rw[←hb,←e];exact ha)
  ·rw[List.map_append,List.mem_append,List.mem_append,h.hm];simp
end Go.Proofs.YtophoepbedlhjaaGreatDoor
namespace Go.Proofs.YtophoepbedlhjaaGreatDoor
open Go Go.RowKit
section
variable {P:Program} {N:Nat} {E:Env} {F:Fm} {H:List OB} {o:Oper} {S:Nat→Prop} {ρ:List (Option Nat)} {a:Act} {w:World} {t:TypeId} {x y:Operand}
end
end Go.Proofs.YtophoepbedlhjaaGreatDoor
namespace Go.Proofs.YtophoepbedlhjaaGreatDoor
open Go Go.RowKit
def mdel {α β:Type} [DecidableEq α] (a:α):List (Nat × α × β)→List (Nat × α × β)
 | []=>[]
 | e :: l=>if a=e.2.1 then l else e :: mdel a l
theorem zk8 {α β:Type} [DecidableEq α] {a:α}:∀{l:List (Nat × α × β)},mget l a=none→mdel a l=l
 | [],_=>rfl
 | e :: l,h=>by
  simp only[mget] at h
  split at h
  ·cases h
  ·rename_i hne
   simp only[mdel]
   rw[if_neg hne,zk8 h]
theorem zj8 {α β:Type} [DecidableEq α] {a:α}:∀{l:List (Nat × α × β)} {i j:Nat},kpos a (l.map (·.2.1)) i=some j→i≤j∧mdel a l=l.eraseIdx (j - i)
 | [],_,_,h=>(by cases h)
 | e :: l,i,j,h=>by
  simp only[List.map_cons,kpos] at h
  simp only[mdel]
  split at h
  ·rename_i he
   injection h with h
   subst h
   rw[if_pos he]
   exact⟨Nat.le_refl _,by simp⟩
  ·rename_i he
   obtain⟨h1,h2⟩:=zj8 h
   rw[if_neg he,h2]
   exact⟨by omega,by rw[show j - i=(j - (i+1))+1 by omega,List.eraseIdx_cons_succ]⟩
theorem zs8 {α β:Type} (f:α→β):∀(l:List α) (i:Nat),(l.map f).eraseIdx i=(l.eraseIdx i).map f
 | [],_=>rfl
 | _ :: _,0=>rfl
 | x :: l,i+1=>by rw[List.map_cons,List.eraseIdx_cons_succ,List.eraseIdx_cons_succ,zs8 f l i,List.map_cons]
theorem mdel_sub {α β:Type} [DecidableEq α] {a:α}:∀{l:List (Nat × α × β)},(mdel a l).Sublist l
 | []=>.slnil
 | e :: l=>by
  simp only[mdel]
  split
  ·exact List.sublist_cons_self _ _
  ·exact mdel_sub.cons_cons _
theorem zk10 {p q:Spot}:∀{es:SE},(es.map (·.2.1)).Nodup→(q∈(mdel p es).map (·.2.1)↔q∈es.map (·.2.1)∧q≠p)
 | [],_=>by simp[mdel]
 | e :: es,h=>by
  rw[List.map_cons,List.nodup_cons] at h
  simp only[mdel]
  split
  ·rename_i hp
   rw[List.map_cons,List.mem_cons]
   constructor
   ·intro hq
    exact⟨.inr hq,fun e'=>h.1 (by rw[←hp,←e'];exact hq)⟩
   ·rintro⟨hq|hq,hne⟩
    ·exact absurd (hq.trans hp.symm) hne
    ·exact hq
  ·rename_i hp
   rw[List.map_cons,List.mem_cons,zk10 h.2,List.map_cons,List.mem_cons]
   constructor
   ·rintro(hq|hq)
    ·exact⟨.inl hq,fun e'=>hp (by rw[←e',hq])⟩
    ·exact⟨.inr hq.1,hq.2⟩
   ·rintro⟨hq|hq,hne⟩
    ·exact .inl hq
    ·exact .inr ⟨hq,hne⟩
theorem SetOk.del {es:SE} {ck:Nat} {L:List Spot} (h:SetOk es ck L) (p:Spot):SetOk (mdel p es) ck (L.filter fun q=>!decide (q=p)):=
 ⟨fun e he=>h.hv e (mdel_sub.subset he),fun e he=>h.hb e (mdel_sub.subset he),(mdel_sub.map _).nodup h.nb,(mdel_sub.map _).nodup h.nk,fun q=>by
  rw[zk10 h.nk,h.hm,List.mem_filter];simp⟩
section
variable {P:Program} {N:Nat} {E:Env} {F:Fm} {H:List OB} {o:Oper} {S:Nat→Prop} {ρ:List (Option Nat)} {a:Act} {w:World}
theorem zL12 {α β:Type} [DecidableEq α] {ke:Enc α} {ve:Enc β} {t kt et:TypeId} {x ix:Operand} {b ck:Nat} {l:List (Nat × α × β)} {k:α} {xk:AV} (hk:KeyOk P kt ke) (ho:o.op = .call { callee:=.builtin .delete,args:=#[x,ix],argTypes:=#[t,kt] }) (hd:o.dst=none) (ht:P.underlying t=some (.map kt et))
    (hx:ev F x=some (.mp b)) (hH:H[b]?=some (mpO ke ve l ck)) (hi:ev F ix=some xk) (hxk:∀ρ H,xk.den ρ H=ke.v k) :
    Ef P N E o F H fun F' H'=>F'=F∧H'=H.set b (mpO ke ve (mdel k l) ck):=fun S ρ a w hR=>by
 obtain⟨h1,_⟩:=hR.ev hx
 have h2:=(hR.ev hi).1
 rw[hxk] at h2
 obtain⟨B,ms,g1,g2,g3⟩:=zK4 hR.hp hH
 simp only[AV.den,g1] at h1
 obtain⟨r,f1,f2,f3⟩:=hk.find ms.toList (l.map (·.2.1)) k w (by rw[g3,List.map_map,List.map_map];rfl)
 obtain⟨q1,q2⟩:=zh3 (a:=k) l 0
 have fin:∀ms':Array MapEntry,ms'.toList=(mdel k l).map (fun e=>(⟨ke.v e.2.1,ve.v e.2.2,e.1⟩:MapEntry))→(Builtin.delete_ #[t,kt] o.type #[.map (some B),ke.v k]).run P w = .ok (.tuple #[]) (zr w B (.map ms' ck))→effO P o a w fun a' w'=>∃S' ρ' F' H',(F'=F∧H'=H.set b (mpO ke ve (mdel k l) ck))∧R N E S' ρ' F' H' a' w':=fun ms' hms hr=>by
  unfold effO
  have hex:(execOp a.eval o).run P w = .ok (.value (.tuple #[])) (zr w B (.map ms' ck)):=by
   unfold execOp
   simp only[ho,resolve,invoke,builtin,Sem.run_bind,Sem.run_pure,Result.andThen_ok,List.map_toArray,List.map_cons,List.map_nil,h1,h2,hr]
  rw[hex]
  refine⟨S,ρ,_,_,⟨rfl,rfl⟩, ?_⟩
  rw[hd]
  refine R.set (ob:=mpO ke ve l ck) hR hH g1 rfl rfl (fun _=>rfl) (zw1 _ _) ⟨B,ms',rfl,zX1 g2,by rw[hms,List.map_map];rfl,fun e he=>?_⟩
  obtain⟨e',_,rfl⟩:=List.mem_map.1 he
  exact .s _
 cases hp:kpos k (l.map (·.2.1)) 0 with
 | none=>
  rw[f2 hp] at f1
  refine fin ms ?_ ?_
  ·rw[zk8 (q1 hp),g3]
  ·simp[Builtin.delete_,zW ht,zj4 g2,hk.chk,f1,zf10 g2,Result.andThen]
 | some j=>
  obtain⟨m,f4,f5⟩:=f3 j hp
  rw[f5] at f1
  obtain⟨_,q6⟩:=zj8 hp
  have hjs:j < ms.size:=by
   have:=(List.getElem?_eq_some_iff.1 f4).1
   simpa using this
  refine fin (ms.eraseIdxIfInBounds j) ?_ ?_
  ·rw[q6,Nat.sub_zero]
   unfold Array.eraseIdxIfInBounds
   rw[dif_pos hjs,Array.toList_eraseIdx,g3,zs8]
  ·simp[Builtin.delete_,zW ht,zj4 g2,hk.chk,f1,zf10 g2,Result.andThen]
end
end Go.Proofs.YtophoepbedlhjaaGreatDoor
