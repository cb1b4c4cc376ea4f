/- A side among sides; the reference's fault of a mesh, by value. -/
import Derived.Test.YtophoepbedlhjaaGreatDoorQbi
set_option linter.unusedSimpArgs false
set_option linter.unusedVariables false
-- NEWM
namespace Go.Proofs.YtophoepbedlhjaaGreatDoor
open Go Go.RowKit
set_option maxRecDepth 100000
theorem zk3 {α:Type} {l:List α} {k:Nat} {z:α} (p:α→Bool) (h:l[k]?=some z):(l.drop k).any p=(p z || (l.drop (k+1)).any p):=by
 obtain⟨h1,h2⟩:=List.getElem?_eq_some_iff.1 h
 rw[List.drop_eq_getElem_cons h1,List.any_cons,h2]
abbrev vR (V:List Vec3):List (List CV):=V.map Vec3.row
abbrev fR (F:List Fac3):List (List CV):=F.map Fac3.row
def coords (v:Vec3):List Int:=[v.x,v.y,v.z]
theorem zg9 (v:Vec3):farV v=(coords v).any farI:=by simp[farV,coords,Bool.or_assoc]
theorem zv9 (v:Value) (V:List Vec3) (hl:V.length≤1000000):ACalls Tryz.prog 177 [.c (.r v (vR V))] [] fun u H=>u = .c (I (if V.any farV=true then 1 else 0))∧H = []:=by
 have e1:(vR V).length=V.length:=by simp
 refine zb (N:=30) Tryz.func177 rfl rfl (by simp) fun E hE=>?_
 refine WA ?_
 refine WA ?_
 refine zm (fun m F H=>∃(k:Nat),m+k=V.length∧(V.drop k).any farV=V.any farV∧F = [(7,.c (.r v (vR V))),(8,.c (I (vR V).length)),(9,.c (I k))]∧H = []) ?_ ?_
 ·refine zf1 [] (fun _=>[(7,.c (.r v (vR V))),(8,.c (I (vR V).length)),(9,.c (I (0:Nat)))]) (fun _=>_) (by decide) (ZNL hE) ZCF (fun _=>.nil) (fun _=>?_)
  exact⟨V.length,0,by omega,rfl,rfl,rfl⟩
 rintro m F H ⟨k,hk,hf,rfl,rfl⟩
 refine WA ?_
 refine zl rfl (fun hlt=>?_) (fun hge=>?_)
 ·obtain⟨z,hz⟩:∃z,V[k]?=some z:=⟨_,List.getElem?_eq_getElem (by omega)⟩
  have hrow:(vR V)[k]?=some z.row:=by rw[List.getElem?_map,hz];rfl
  have hfd:=zk3 farV hz
  refine WA ?_
  refine WA ?_
  refine zm (fun m2 F H=>∃(j:Nat),m2+j=3∧((coords z).drop j).any farI=(coords z).any farI∧F = [(7,.c (.r v (vR V))),(8,.c (I (vR V).length)),(9,.c (I k)),(19,.o 0 0 3 3),(20,.c (I (3:Nat))),(21,.c (I j))]∧H = [.arr 3 1 3 ((coords z).map fun n=>[I n])]) ?_ ?_
  ·refine wkg [some 1] (fun _=>[(7,.c (.r v (vR V))),(8,.c (I (vR V).length)),(9,.c (I k)),(19,.o 0 0 3 3),(20,.c (I (3:Nat))),(21,.c (I (0:Nat)))]) (fun _=>[.arr 3 1 3 ((coords z).map fun n=>[I n])]) (fun _=>?_)
   exact⟨3,0,rfl,rfl,rfl,rfl⟩
  rintro m2 F H ⟨j,hj,hg,rfl,rfl⟩
  refine WA ?_
  refine zl rfl (fun hlt2=>?_) (fun hge2=>?_)
  ·obtain⟨n,hn⟩:∃n,(coords z)[j]?=some n:=⟨_,List.getElem?_eq_getElem (by simp[coords];omega)⟩
   have hrow2:((coords z).map fun n=>[I n])[j]?=some [I n]:=by rw[List.getElem?_map,hn];rfl
   have hgd:=zk3 farI hn
   refine WA ?_
   refine WR ?_
   refine zf rfl (zn false (fun _=>rin_v _ _ _) rfl .fn rfl (by decide) (by kernel_rfl) rfl (fun _g=>.cons (.c rfl) (.cons (.c rfl) (.cons (.c rfl) .nil))) (by simp)) ?_
   rintro _ _ ⟨_,_,_,⟨rfl,rfl⟩,hF,hH⟩
   (refine NST hF hH ?_;clear hF hH;rintro rfl rfl)
   refine WE ?_
   refine zh rfl (fun hb=>?_) (fun hb=>?_)
   ·refine WA ?_
    refine arz (q:=⟨?_,rfl⟩)
    have h1:farI n=true:=by simpa [farI] using hb
    have h2:V.any farV=true:=by rw[←hf,hfd,zg9,←hg,hgd,h1];simp
    rw[if_pos h2]
   ·refine WA ?_
    refine wkg [some 0] (fun _=>[(7,.c (.r v (vR V))),(8,.c (I (vR V).length)),(9,.c (I k)),(19,.o 0 0 3 3),(20,.c (I (3:Nat))),(21,.c (I (j+1:Nat)))]) (fun _=>[.arr 3 1 3 ((coords z).map fun n=>[I n])]) (fun _=>?_)
    have h1:farI n=false:=by simpa [farI] using hb
    exact⟨m2 - 1,by omega,j+1,by omega,by rw[←hg,hgd,h1,Bool.false_or],rfl,rfl⟩
  refine WA ?_
  refine zf1 [] (fun _=>[(7,.c (.r v (vR V))),(8,.c (I (vR V).length)),(9,.c (I (k+1:Nat)))]) (fun _=>_) (by decide) (ZNL hE) ZCF (fun _=>.nil) (fun _=>?_)
  have h1:farV z=false:=by
   rw[zg9,←hg,List.drop_eq_nil_of_le (by simp[coords];omega)];rfl
  exact⟨m - 1,by omega,k+1,by omega,by rw[←hf,hfd,h1,Bool.false_or],rfl,rfl⟩
 refine WA ?_
 refine arz (q:=⟨?_,rfl⟩)
 have h2:V.any farV=false:=by rw[←hf,List.drop_eq_nil_of_le (by omega)];rfl
 rw[h2];rfl
def corn (f:Fac3):List Int:=[f.a,f.b,f.c]
theorem zh1 (V:List Vec3) (f:Fac3):(outI V f.a || outI V f.b || outI V f.c)=(corn f).any (outI V):=by simp[corn,Bool.or_assoc]
abbrev mBox (v w:Value) (V:List Vec3) (fr:List (List CV)):OB:=.box [.c (.r v (vR V)),.c (.r w fr)]
abbrev fBox (a b c:Int):OB:=.box [.c (I a),.c (I b),.c (I c)]
theorem zeroV (n:Vec3):(n=⟨0,0,0⟩)↔(n.x=0∧n.y=0∧n.z=0):=by
 obtain⟨x,y,z⟩:=n
 simp
theorem zg8 (v w:Value) (V:List Vec3) (fr:List (List CV)) (f:Fac3) (hV:∀v∈V,farV v=false) (hl:V.length≤1000000) :
    ACalls Tryz.prog 110 [.a [.c (.r v (vR V)),.c (.r w fr)],.a (f.row.map .c)] [] fun u H=>u = .c (I (ffP V f))∧H = []:=by
 have e1:(vR V).length=V.length:=by simp
 obtain⟨fa,fb,fc⟩:=f
 refine zb (N:=55) Tryz.func110 rfl rfl (by simp) fun E hE=>?_
 refine WA ?_
 refine WA ?_
 refine zm (fun m2 F H=>∃(j:Nat),m2+j=3∧((corn ⟨fa,fb,fc⟩).drop j).any (outI V)=(corn ⟨fa,fb,fc⟩).any (outI V)∧F = [(2,.p 0 0 0),(3,.p 1 0 0),(13,.o 2 0 3 3),(14,.c (I (3:Nat))),(15,.c (I j))]∧H = [mBox v w V fr,fBox fa fb fc,.arr 3 1 3 ((corn ⟨fa,fb,fc⟩).map fun n=>[I n])]) ?_ ?_
 ·refine wkg [some 0,some 1,some 2] (fun _=>[(2,.p 0 0 0),(3,.p 1 0 0),(13,.o 2 0 3 3),(14,.c (I (3:Nat))),(15,.c (I (0:Nat)))]) (fun _=>[mBox v w V fr,fBox fa fb fc,.arr 3 1 3 ((corn ⟨fa,fb,fc⟩).map fun n=>[I n])]) (fun _=>?_)
  exact⟨3,0,rfl,rfl,rfl,rfl⟩
 rintro m2 F H ⟨j,hj,hg,rfl,rfl⟩
 refine WA ?_
 refine zl rfl (fun hlt2=>?_) (fun hge2=>?_)
 ·obtain⟨n,hn⟩:∃n,(corn ⟨fa,fb,fc⟩)[j]?=some n:=⟨_,List.getElem?_eq_getElem (by simp[corn];omega)⟩
  have hrow2:((corn ⟨fa,fb,fc⟩).map fun n=>[I n])[j]?=some [I n]:=by rw[List.getElem?_map,hn];rfl
  have hgd:=zk3 (outI V) hn
  by_cases ho:outI V n=true
  ·have h2:(corn ⟨fa,fb,fc⟩).any (outI V)=true:=by rw[←hg,hgd,ho];rfl
   have ho':n < 0∨(V.length:Int)≤n:=by simpa [outI] using ho
   by_cases h0:n < 0
   ·refine WA ?_
    refine WA ?_
    refine zd rfl ?_
    refine WA ?_
    refine arz (q:=⟨?_,rfl⟩)
    rw[ffP,zh1,if_pos h2]
   ·have h1:(V.length:Int)≤n:=by omega
    refine WA ?_
    refine WA ?_
    refine zh rfl (fun _=>?_) (fun hb=>absurd hb (by simp;try omega))
    refine WA ?_
    refine arz (q:=⟨?_,rfl⟩)
    rw[ffP,zh1,if_pos h2]
  ·have ho':0≤n∧n < (V.length:Int):=by simp[outI] at ho;omega
   refine WA ?_
   refine WA ?_
   refine zh rfl (fun hb=>absurd hb (by simp;try omega)) (fun _=>?_)
   refine WA ?_
   refine wkg [some 0,some 1,some 2] (fun _=>[(2,.p 0 0 0),(3,.p 1 0 0),(13,.o 2 0 3 3),(14,.c (I (3:Nat))),(15,.c (I (j+1:Nat)))]) (fun _=>[mBox v w V fr,fBox fa fb fc,.arr 3 1 3 ((corn ⟨fa,fb,fc⟩).map fun n=>[I n])]) (fun _=>?_)
   exact⟨m2 - 1,by omega,j+1,by omega,by rw[←hg,hgd,Bool.eq_false_iff.2 ho,Bool.false_or],rfl,rfl⟩
 refine ZZ ?_
 have h2:(corn ⟨fa,fb,fc⟩).any (outI V)=false:=by rw[←hg,List.drop_eq_nil_of_le (by simp[corn];omega)];rfl
 have h3:(outI V fa || outI V fb || outI V fc)=false:=by rw[←h2,←zh1]
 simp only[outI,Bool.or_eq_false_iff,decide_eq_false_iff_not] at h3
 obtain⟨ia,ha⟩:∃i:Nat,fa=i:=⟨fa.toNat,by omega⟩
 obtain⟨ib,hb⟩:∃i:Nat,fb=i:=⟨fb.toNat,by omega⟩
 obtain⟨ic,hc⟩:∃i:Nat,fc=i:=⟨fc.toNat,by omega⟩
 subst ha;subst hb;subst hc
 by_cases g1:(ia:Int)=ib
 ·refine WR ?_
  refine WE ?_
  refine zh rfl (fun _=>?_) (fun hb=>absurd hb (by simp))
  refine WA ?_
  refine arz (q:=⟨?_,rfl⟩)
  rw[ffP,zh1,h2,if_neg (by simp),if_pos (.inl g1)]
 by_cases g2:(ib:Int)=ic
 ·refine WR ?_
  refine WE ?_
  refine zh rfl (fun _=>?_) (fun hb=>absurd hb (by simp))
  refine WA ?_
  refine arz (q:=⟨?_,rfl⟩)
  rw[ffP,zh1,h2,if_neg (by simp),if_pos (.inr (.inl g2))]
 by_cases g3:(ic:Int)=ia
 ·refine WR ?_
  refine WE ?_
  refine zh rfl (fun _=>?_) (fun hb=>absurd hb (by simp))
  refine WA ?_
  refine arz (q:=⟨?_,rfl⟩)
  rw[ffP,zh1,h2,if_neg (by simp),if_pos (.inr (.inr (.inl g3)))]
 refine WR ?_
 first|refine ZS ?_|(refine G1 rfl ?_;refine zf rfl (efk (c:=fun _=>nrm_v v w V fr ia ib ic hV (by omega) (by omega) (by omega))) ?_;rintro _ _ ⟨_,_,_,⟨rfl,rfl⟩,hF,hH⟩;(refine NST hF hH ?_;clear hF hH;rintro rfl rfl))|skip
 refine WX1 ?_
 first|refine ZP (zN3 rfl rfl rfl) ?_|refine ZS ?_
 refine WE ?_
 refine zh rfl (fun hb=>?_) (fun hb=>?_)
 ·refine WA ?_
  refine arz (q:=⟨?_,rfl⟩)
  rw[ffP,zh1,h2,if_neg (by simp),if_pos (.inr (.inr (.inr ((zeroV _).2 (by simpa using hb)))))]
 ·refine WA ?_
  refine arz (q:=⟨?_,rfl⟩)
  have hz:¬nrm V ⟨ia,ib,ic⟩=⟨0,0,0⟩:=fun h=>by
   have:=(zeroV _).1 h
   simp[this] at hb
  rw[ffP,zh1,h2,if_neg (by simp),if_neg (by rintro(h|h|h|h) <;> contradiction)]
end Go.Proofs.YtophoepbedlhjaaGreatDoor
-- NEWM
namespace Go.Proofs.YtophoepbedlhjaaGreatDoor
open Go Go.RowKit
set_option maxRecDepth 100000
abbrev sR (l:List Sid2):List (List CV):=l.map Sid2.row
theorem zW10 {l:List Sid2} {k:Nat} {z x:Sid2} (h:l[k]?=some z):x∈l.drop k↔x=z∨x∈l.drop (k+1):=by
 obtain⟨h1,h2⟩:=List.getElem?_eq_some_iff.1 h
 rw[List.drop_eq_getElem_cons h1,List.mem_cons,h2]
theorem sid_eq (a b:Sid2):a=b↔(a.f=b.f∧a.t=b.t):=by
 obtain⟨x,y⟩:=a
 obtain⟨z,w⟩:=b
 simp
theorem idxS_v (x:Sid2) (l:List Sid2) (v:Value) (hl:l.length≤1000000000):ACalls Tryz.prog 179 [.c (.r v (sR l)),.a (x.row.map .c)] [] fun u H=>∃r:Int,u = .c (I r)∧H = []∧(0≤r↔x∈l):=by
 have e1:(sR l).length=l.length:=by simp
 obtain⟨xf,xt⟩:=x
 refine zb (N:=19) Tryz.func179 rfl rfl (by simp) fun E hE=>?_
 refine WA ?_
 refine WA ?_
 refine zm (fun m F H=>∃(k:Nat),m+k=l.length∧((⟨xf,xt⟩:Sid2)∈l.drop k↔⟨xf,xt⟩∈l)∧F = [(0,.c (.r v (sR l))),(3,.p 0 0 0),(7,.c (I (sR l).length)),(8,.c (I k))]∧H = [.box [.c (I xf),.c (I xt)]]) ?_ ?_
 ·refine wkg [some 0] (fun _=>[(0,.c (.r v (sR l))),(3,.p 0 0 0),(7,.c (I (sR l).length)),(8,.c (I (0:Nat)))]) (fun _=>[.box [.c (I xf),.c (I xt)]]) (fun _=>?_)
  exact⟨l.length,0,by omega,Iff.rfl,rfl,rfl⟩
 rintro m F H ⟨k,hk,hf,rfl,rfl⟩
 refine WA ?_
 refine zl rfl (fun hlt=>?_) (fun hge=>?_)
 ·obtain⟨z,hz⟩:∃e,l[k]?=some e:=⟨_,List.getElem?_eq_getElem (by omega)⟩
  have hrow:(sR l)[k]?=some z.row:=by rw[List.getElem?_map,hz];rfl
  have hfd:=zW10 (x:=⟨xf,xt⟩) hz
  rw[sid_eq] at hfd
  refine WA ?_
  refine ZZ ?_
  refine zc [(0,none),(1,none),(2,none),(3,none),(4,none),(5,none)] zo (by kernel_rfl) ?_
  iterate 5 refine WX2 ?_
  refine ZT rfl (zh4 rfl rfl rfl) ?_
  refine WQ ?_
  refine zl rfl (fun heq=>?_) (fun hne=>?_)
  ·refine WA ?_
   exact arz (q:=⟨_,rfl,rfl,⟨fun _=>hf.1 (hfd.2 (.inl heq)),fun _=>by omega⟩⟩)
  ·refine WA ?_
   refine wkg [some 0] (fun _=>[(0,.c (.r v (sR l))),(3,.p 0 0 0),(7,.c (I (sR l).length)),(8,.c (I (k+1:Nat)))]) (fun _=>[.box [.c (I xf),.c (I xt)]]) (fun _=>?_)
   exact⟨m - 1,by omega,k+1,by omega,⟨fun h=>hf.1 (hfd.2 (.inr h)),fun h=>(hfd.1 (hf.2 h)).resolve_left hne⟩,rfl,rfl⟩
 refine WA ?_
 refine arz (q:=⟨_,rfl,rfl, ?_⟩)
 rw[←hf,List.drop_eq_nil_of_le (by omega)];simp
theorem hasS_v (x:Sid2) (l:List Sid2) (v:Value) (hl:l.length≤1000000000):ACalls Tryz.prog 106 [.c (.r v (sR l)),.a (x.row.map .c)] [] fun u H=>u = .c (B (l.contains x))∧H = []:=by
 obtain⟨xf,xt⟩:=x
 refine zb (N:=9) Tryz.func106 rfl rfl (by simp) fun E hE=>?_
 refine WA ?_
 refine WR ?_
 refine zf rfl (efk (c:=fun _=>idxS_v ⟨xf,xt⟩ l v (by omega))) ?_
 rintro _ _ ⟨_,_,_,⟨r,rfl,rfl,hr⟩,hF,hH⟩
 (refine NST hF hH ?_;clear hF hH;rintro rfl rfl)
 refine WE ?_
 refine arz (q:=⟨congrArg (fun z=>AV.c (B z)) ?_,rfl⟩)
 by_cases h:(⟨xf,xt⟩:Sid2)∈l
 ·rw[decide_eq_true (hr.2 h)];simpa using h
 ·rw[decide_eq_false (fun h'=>h (hr.1 h'))];simpa using h
theorem flat3_le (l:List Fac3) (k:Nat):((l.take k).flatMap sds).length≤3*k:=by
 have:∀l:List Fac3,(l.flatMap sds).length=3*l.length:=fun l=>by
  induction l with
  | nil=>rfl
  | cons f l ih=>simp only[List.flatMap_cons,List.length_append,ih,sds,List.length_cons,List.length_nil];omega
 rw[this,List.length_take];omega
theorem rmshF_v (v w:Value) (V:List Vec3) (Fs:List Fac3) (hVl:V.length≤1000000) (hFl:Fs.length≤1000000):ACalls Tryz.prog 104 [mshA v w V Fs] [] fun u H=>u = .c (I (mshF V Fs))∧H = []:=by
 have e1:(vR V).length=V.length:=by simp
 have e2:(fR Fs).length=Fs.length:=by simp
 have e1':(V.map Vec3.row).length=V.length:=by simp
 have e2':(Fs.map Fac3.row).length=Fs.length:=by simp
 refine zb (N:=91) Tryz.func104 rfl rfl (by simp) fun E hE=>?_
 refine WA ?_
 refine WA ?_
 refine zl rfl (fun h0=>?_) (fun h0=>?_)
 ·refine WA ?_
  refine arz (q:=⟨?_,rfl⟩)
  rw[mshF,if_pos (List.eq_nil_of_length_eq_zero (show Fs.length=0 by omega))]
 have hne:¬Fs = []:=fun h=>by rw[h] at h0;simp at h0
 by_cases hb:1000 < V.length∨1000 < Fs.length
 ·have hres:mshF V Fs=2:=by rw[mshF,if_neg hne,if_pos hb]
  by_cases hb1:(1000:Int) < ((V.map Vec3.row).length:Int)
  ·refine WA ?_
   refine zd rfl ?_
   refine WA ?_
   exact arz (q:=⟨by rw[hres],rfl⟩)
  ·refine WA ?_
   refine zh rfl (fun _=>?_) (fun h=>absurd h (by simp;try omega))
   refine WA ?_
   exact arz (q:=⟨by rw[hres],rfl⟩)
 have hb1:¬(1000:Int) < ((V.map Vec3.row).length:Int):=fun h=>hb (.inl (by omega))
 have hb2:¬1000 < Fs.length:=fun h=>hb (.inr h)
 refine WA ?_
 refine zh rfl (fun h=>absurd h (by simp;try omega)) (fun _=>?_)
 refine WR ?_
 refine zf rfl (efk (c:=fun _=>zv9 v V (by omega))) ?_
 rintro _ _ ⟨_,_,_,⟨rfl,rfl⟩,hF,hH⟩
 (refine NST hF hH ?_;clear hF hH;rintro rfl rfl)
 refine WE ?_
 refine WA ?_
 refine zl rfl (fun hv=>?_) (fun hv=>?_)
 ·refine WA ?_
  refine arz (q:=⟨?_,rfl⟩)
  by_cases hf:V.any farV=true
  ·rw[mshF,if_neg hne,if_neg hb,if_pos hf,if_pos hf]
  ·rw[if_neg hf] at hv;exact absurd rfl hv
 have hfar:¬V.any farV=true:=fun h=>by rw[if_pos h] at hv;exact hv (by decide)
 have hV:∀v∈V,farV v=false:=fun v hv=>by
  cases hq:farV v with
  | false=>rfl
  | true=>exact absurd (List.any_eq_true.2 ⟨v,hv,hq⟩) hfar
 have e3:mshF V Fs=if fst0 (Fs.map (ffR V))≠0 then fst0 (Fs.map (ffR V)) else if dupS [] (Fs.flatMap sds)=true then 6 else 0:=by rw[mshF,if_neg hne,if_neg hb,if_neg hfar]
 refine WA ?_
 refine zm (fun m F H=>∃(k:Nat),m+k=Fs.length∧fst0 ((Fs.map (ffR V)).take k)=0∧F = [(1,.p 0 0 0),(36,.c (.r w (fR Fs))),(37,.c (I (fR Fs).length)),(38,.c (I k))]∧H = [mBox v w V (fR Fs)]) ?_ ?_
 ·refine wkg [some 0] (fun _=>[(1,.p 0 0 0),(36,.c (.r w (fR Fs))),(37,.c (I (fR Fs).length)),(38,.c (I (0:Nat)))]) (fun _=>[mBox v w V (fR Fs)]) (fun _=>?_)
  exact⟨Fs.length,0,by omega,by simp[fst0],rfl,rfl⟩
 ·rintro m F H ⟨k,hk,hf,rfl,rfl⟩
  refine WA ?_
  refine zl rfl (fun hlt=>?_) (fun hge=>?_)
  ·obtain⟨f,hz⟩:∃z,Fs[k]?=some z:=⟨_,List.getElem?_eq_getElem (by omega)⟩
   have hmap:(Fs.map (ffR V))[k]?=some (ffR V f):=by rw[List.getElem?_map,hz];rfl
   obtain⟨fa,fb,fc⟩:=f
   have hrow:(fR Fs)[k]?=some [I fa,I fb,I fc]:=by rw[List.getElem?_map,hz];rfl
   have hend:ffR V ⟨fa,fb,fc⟩≠0→mshF V Fs=ffR V ⟨fa,fb,fc⟩:=fun h=>by
    have:=zj11 hf hmap h
    rw[e3,this,if_pos h]
   refine WA ?_
   refine WA ?_
   refine zm (fun m2 F H=>∃(j:Nat),m2+j=3∧((corn ⟨fa,fb,fc⟩).drop j).any (outI V)=(corn ⟨fa,fb,fc⟩).any (outI V)∧F = [(1,.p 0 0 0),(36,.c (.r w (fR Fs))),(37,.c (I (fR Fs).length)),(38,.c (I k)),(5,.p 1 0 0),(48,.o 2 0 3 3),(49,.c (I (3:Nat))),(50,.c (I j))]∧H = [mBox v w V (fR Fs),fBox fa fb fc,.arr 3 1 3 ((corn ⟨fa,fb,fc⟩).map fun n=>[I n])]) ?_ ?_
   ·refine wkg [some 0,some 1,some 2] (fun _=>[(1,.p 0 0 0),(36,.c (.r w (fR Fs))),(37,.c (I (fR Fs).length)),(38,.c (I k)),(5,.p 1 0 0),(48,.o 2 0 3 3),(49,.c (I (3:Nat))),(50,.c (I (0:Nat)))]) (fun _=>[mBox v w V (fR Fs),fBox fa fb fc,.arr 3 1 3 ((corn ⟨fa,fb,fc⟩).map fun n=>[I n])]) (fun _=>?_)
    exact⟨3,0,rfl,rfl,rfl,rfl⟩
   rintro m2 F H ⟨j,hj,hg,rfl,rfl⟩
   refine WA ?_
   refine zl rfl (fun hlt2=>?_) (fun hge2=>?_)
   ·obtain⟨n,hn⟩:∃n,(corn ⟨fa,fb,fc⟩)[j]?=some n:=⟨_,List.getElem?_eq_getElem (by simp[corn];omega)⟩
    have hrow2:((corn ⟨fa,fb,fc⟩).map fun n=>[I n])[j]?=some [I n]:=by rw[List.getElem?_map,hn];rfl
    have hgd:=zk3 (outI V) hn
    refine WA ?_
    refine WR ?_
    refine zf rfl (zn false (fun _=>rin_v _ _ _) rfl .fn rfl (by decide) (by kernel_rfl) rfl (fun _g=>.cons (.c rfl) (.cons (.c rfl) (.cons (.c rfl) .nil))) (by simp)) ?_
    rintro _ _ ⟨_,_,_,⟨rfl,rfl⟩,hF,hH⟩
    (refine NST hF hH ?_;clear hF hH;rintro rfl rfl)
    refine WE ?_
    have ho:outI V n=(decide (n < 0) || decide (((vR V).length:Int) - 1 < n)):=by
     rw[Bool.eq_iff_iff];simp[outI];omega
    refine zh rfl (fun hb=>?_) (fun hb=>?_)
    ·refine WA ?_
     refine arz (q:=⟨?_,rfl⟩)
     have h1:outI V n=true:=by rw[ho];simpa using hb
     have h2:(corn ⟨fa,fb,fc⟩).any (outI V)=true:=by rw[←hg,hgd,h1];rfl
     have h3:ffR V ⟨fa,fb,fc⟩=8:=by rw[ffR,zh1,if_pos h2]
     rw[hend (by rw[h3];decide),h3]
    ·refine WA ?_
     refine wkg [some 0,some 1,some 2] (fun _=>[(1,.p 0 0 0),(36,.c (.r w (fR Fs))),(37,.c (I (fR Fs).length)),(38,.c (I k)),(5,.p 1 0 0),(48,.o 2 0 3 3),(49,.c (I (3:Nat))),(50,.c (I (j+1:Nat)))]) (fun _=>[mBox v w V (fR Fs),fBox fa fb fc,.arr 3 1 3 ((corn ⟨fa,fb,fc⟩).map fun n=>[I n])]) (fun _=>?_)
     have h1:outI V n=false:=by rw[ho];simpa using hb
     exact⟨m2 - 1,by omega,j+1,by omega,by rw[←hg,hgd,h1,Bool.false_or],rfl,rfl⟩
   refine ZZ ?_
   have h2:(corn ⟨fa,fb,fc⟩).any (outI V)=false:=by rw[←hg,List.drop_eq_nil_of_le (by simp[corn];omega)];rfl
   have h3:(outI V fa || outI V fb || outI V fc)=false:=by rw[←h2,←zh1]
   simp only[outI,Bool.or_eq_false_iff,decide_eq_false_iff_not] at h3
   obtain⟨ia,ha⟩:∃i:Nat,fa=i:=⟨fa.toNat,by omega⟩
   obtain⟨ib,hb'⟩:∃i:Nat,fb=i:=⟨fb.toNat,by omega⟩
   obtain⟨ic,hc⟩:∃i:Nat,fc=i:=⟨fc.toNat,by omega⟩
   subst ha;subst hb';subst hc
   refine WR ?_
   refine zf rfl (efk (c:=fun _=>rnrm_v v w V (fR Fs) ia ib ic hV (by omega) (by omega) (by omega))) ?_
   rintro _ _ ⟨_,_,_,⟨rfl,rfl⟩,hF,hH⟩
   (refine NST hF hH ?_;clear hF hH;rintro rfl rfl)
   refine WX1 ?_
   refine ZA (zN3 rfl rfl rfl) ?_
   refine WE ?_
   refine zh rfl (fun hz0=>?_) (fun hz0=>?_)
   ·refine WA ?_
    refine arz (q:=⟨?_,rfl⟩)
    have h4:ffR V ⟨ia,ib,ic⟩=3:=by rw[ffR,zh1,h2,if_neg (by simp),if_pos ((zeroV _).2 (by simpa using hz0))]
    rw[hend (by rw[h4];decide),h4]
   ·refine WA ?_
    refine wkg [some 0] (fun _=>[(1,.p 0 0 0),(36,.c (.r w (fR Fs))),(37,.c (I (fR Fs).length)),(38,.c (I (k+1:Nat)))]) (fun _=>[mBox v w V (fR Fs)]) (fun _=>?_)
    have hz1:¬nrm V ⟨ia,ib,ic⟩=⟨0,0,0⟩:=fun h=>by
     have:=(zeroV _).1 h
     simp[this] at hz0
    have h4:ffR V ⟨ia,ib,ic⟩=0:=by rw[ffR,zh1,h2,if_neg (by simp),if_neg hz1]
    exact⟨m - 1,by omega,k+1,by omega,zr7 hf hmap h4,rfl,rfl⟩
  have hall:fst0 (Fs.map (ffR V))=0:=by
   rw[List.take_of_length_le (by simp;omega)] at hf;exact hf
  rw[if_neg (by rw[hall];simp)] at e3
  refine WA ?_
  refine WA ?_
  refine zm (fun m F H=>∃(k c:Nat),m+k=Fs.length∧dupS [] ((Fs.take k).flatMap sds)=false∧F = [(1,.p 0 0 0),(8,.o 1 0 ((Fs.take k).flatMap sds).length c),(69,.c (.r w (fR Fs))),(70,.c (I (fR Fs).length)),(71,.c (I k))]∧H = [mBox v w V (fR Fs),.arr 189 2 c (sR ((Fs.take k).flatMap sds))]) ?_ ?_
  ·refine wkg [some 0,none] (fun _=>[(1,.p 0 0 0),(8,.o 1 0 0 0),(69,.c (.r w (fR Fs))),(70,.c (I (fR Fs).length)),(71,.c (I (0:Nat)))]) (fun _=>[mBox v w V (fR Fs),.arr 189 2 0 []]) (fun _=>?_)
   exact⟨Fs.length,0,0,by omega,by simp[dupS],by simp,by simp⟩
  ·rintro m F H ⟨k,c,hk,hd,rfl,rfl⟩
   refine WA ?_
   refine zl rfl (fun hlt=>?_) (fun hge=>?_)
   ·obtain⟨f,hz⟩:∃z,Fs[k]?=some z:=⟨_,List.getElem?_eq_getElem (by omega)⟩
    obtain⟨fa,fb,fc⟩:=f
    have hrow:(fR Fs)[k]?=some [I fa,I fb,I fc]:=by rw[List.getElem?_map,hz];rfl
    have hlen:((Fs.take k).flatMap sds).length≤3*k:=flat3_le _ _
    refine WA ?_
    refine WR ?_
    refine zf rfl (efk (c:=fun _=>zN8 ⟨fa,fb,fc⟩)) ?_
    rintro _ _ ⟨_,_,_,⟨⟨q,rfl⟩,rfl⟩,hF,hH⟩
    (refine NST hF hH ?_;clear hF hH;rintro rfl rfl)
    refine WE ?_
    have e5:(sR (sds ⟨fa,fb,fc⟩)).length=3:=rfl
    generalize hL:(Fs.take k).flatMap sds=L at hd hlen ⊢
    refine zm (fun m2 F H=>∃(j c2:Nat),m2+j=3∧dupS [] (L++(sds ⟨fa,fb,fc⟩).take j)=false∧F = [(1,.p 0 0 0),(8,.o 1 0 (L++(sds ⟨fa,fb,fc⟩).take j).length c2),(69,.c (.r w (fR Fs))),(70,.c (I (fR Fs).length)),(71,.c (I k)),(76,.c (.r q (sR (sds ⟨fa,fb,fc⟩)))),(77,.c (I (3:Nat))),(78,.c (I j))]∧H = [mBox v w V (fR Fs),.arr 189 2 c2 (sR (L++(sds ⟨fa,fb,fc⟩).take j))]) ?_ ?_
    ·refine wkg [some 0,some 1] (fun _=>[(1,.p 0 0 0),(8,.o 1 0 L.length c),(69,.c (.r w (fR Fs))),(70,.c (I (fR Fs).length)),(71,.c (I k)),(76,.c (.r q (sR (sds ⟨fa,fb,fc⟩)))),(77,.c (I (3:Nat))),(78,.c (I (0:Nat)))]) (fun _=>[mBox v w V (fR Fs),.arr 189 2 c (sR L)]) (fun _=>?_)
     exact⟨3,0,c,rfl,by simpa using hd,by simp,by simp⟩
    ·rintro m2 F H ⟨j,c2,hj,hd2,rfl,rfl⟩
     refine WA ?_
     refine zl rfl (fun hlt2=>?_) (fun hge2=>?_)
     ·obtain⟨s,hs⟩:∃s,(sds ⟨fa,fb,fc⟩)[j]?=some s:=⟨_,List.getElem?_eq_getElem (by simp[sds];omega)⟩
      obtain⟨sf,st⟩:=s
      have hrow2:(sR (sds ⟨fa,fb,fc⟩))[j]?=some [I sf,I st]:=by rw[List.getElem?_map,hs];rfl
      have hlen2:(L++(sds ⟨fa,fb,fc⟩).take j).length≤3*k+3:=by simp[sds];omega
      have htk:(sds ⟨fa,fb,fc⟩).take (j+1)=(sds ⟨fa,fb,fc⟩).take j++[⟨sf,st⟩]:=by rw[List.take_add_one,hs];rfl
      have hsp:=zM8 hz j
      rw[hL] at hsp
      have hdr:(sds ⟨fa,fb,fc⟩).drop j=⟨sf,st⟩ :: (sds ⟨fa,fb,fc⟩).drop (j+1):=by
       obtain⟨h1,h2⟩:=List.getElem?_eq_some_iff.1 hs
       rw[List.drop_eq_getElem_cons h1,h2]
      generalize hM:L++(sds ⟨fa,fb,fc⟩).take j=M at hd2 hlen2 hsp ⊢
      refine WA ?_
      refine WR ?_
      refine zf rfl (zn true (fun g=>hasS_v ⟨sf,st⟩ M (g (.o 1 0 M.length c2)) (by omega)) rfl .fn rfl (by decide) (by kernel_rfl) rfl (fun _=>.cons (.frz rfl rfl (by rw[List.drop_zero,List.take_of_length_le (by simp)]) (by simp) rfl) (.cons (.aL (C0 rfl)) .nil)) (fun _ _ _ _ ⟨hu,hH⟩=>by rw[hu,hH];exact⟨.c (.inl trivial),by simp⟩)) ?_
      rintro _ _ ⟨_,_,_,⟨rfl,rfl⟩,hF,hH⟩
      (refine NST hF hH ?_;clear hF hH;rintro rfl rfl)
      refine WE ?_
      refine zh rfl (fun hb=>?_) (fun hb=>?_)
      ·refine WA ?_
       refine arz (q:=⟨?_,rfl⟩)
       have:dupS [] (Fs.flatMap sds)=true:=by rw[hsp,hdr,List.cons_append];exact zk9 hb
       rw[e3,if_pos this]
      ·refine WR ?_
       refine zf rfl (Zapp (KA (t:=86) rfl)) ?_
       rintro _ _ ⟨_,cc,hcc,rfl,rfl⟩
       refine WE ?_
       refine WA ?_
       refine zf1 [some 0,some 1] (fun _=>[(1,.p 0 0 0),(8,.o 1 0 (M++[(⟨sf,st⟩:Sid2)]).length cc),(69,.c (.r w (fR Fs))),(70,.c (I (fR Fs).length)),(71,.c (I k)),(76,.c (.r q (sR (sds ⟨fa,fb,fc⟩)))),(77,.c (I (3:Nat))),(78,.c (I (j+1:Nat)))]) (fun _=>_) (by decide) (ZNL hE) ZCF ZCH (fun _=>?_)
       refine⟨m2 - 1,by omega,j+1,cc,by omega, ?_, ?_, ?_⟩
       ·rw[htk,←List.append_assoc,hM,zw7 hd2];exact hb
       ·rw[htk,←List.append_assoc,hM]
       ·rw[htk,←List.append_assoc,hM];simp[sR]
     refine ZZ ?_
     obtain rfl:j=3:=by omega
     have h6:L++(sds ⟨fa,fb,fc⟩).take 3=(Fs.take (k+1)).flatMap sds:=by rw[zK7 hz,hL];rfl
     rw[h6] at hd2 ⊢
     refine WA ?_
     refine wkg [some 0,some 1] (fun _=>[(1,.p 0 0 0),(8,.o 1 0 ((Fs.take (k+1)).flatMap sds).length c2),(69,.c (.r w (fR Fs))),(70,.c (I (fR Fs).length)),(71,.c (I (k+1:Nat)))]) (fun _=>[mBox v w V (fR Fs),.arr 189 2 c2 (sR ((Fs.take (k+1)).flatMap sds))]) (fun _=>?_)
     exact⟨m - 1,by omega,k+1,c2,by omega,hd2,rfl,rfl⟩
   refine WA ?_
   refine arz (q:=⟨?_,rfl⟩)
   rw[List.take_of_length_le (by omega)] at hd
   rw[e3,hd];rfl
end Go.Proofs.YtophoepbedlhjaaGreatDoor
