/- The reference's box, by value. -/
import Derived.Test.YtophoepbedlhjaaGreatDoorQbj
import Derived.Test.YtophoepbedlhjaaGreatDoorQav
import Derived.Laws.StructEq
import Derived.Test.YtophoepbedlhjaaGreatDoorQba
set_option linter.unusedSimpArgs false
set_option linter.unusedVariables false
-- NEWM
namespace Go.Proofs.YtophoepbedlhjaaGreatDoor
open Go Go.RowKit
set_option maxRecDepth 100000
def encS:Enc Sid2:=⟨fun s=>.agg #[.int .i64 s.f,.int .i64 s.t],fun s=>.a (s.row.map .c),fun s ρ H=>by simp[AV.den,AV.denL,CV.den],fun s w S ρ H=>.a fun x hx=>by
 simp only[List.map_cons,List.map_nil,List.mem_cons,List.not_mem_nil,or_false] at hx
 rcases hx with rfl|rfl
 ·exact .c (.s _)
 ·exact .c (.s _)⟩
def encBS:Enc Bool:=⟨fun b=>.bool b,fun b=>.c (B b),fun b ρ H=>rfl,fun b w S ρ H=>.c (.s _)⟩
theorem chkIS (b:Bool) (z:Int) (w:World):(Instr.checkKey b 9999 3 (.int .i64 z)).run Tryz.prog w = .ok () w:=by
 rw[show (9999:Nat)=9998+1 from rfl,Instr.checkKey]
 simp only[Sem.run_bind,zJ Tryz.underlying3,Result.andThen_ok]
 rfl
theorem keySide (a b c d:Int) (w:World):(Op.equal 189 (.agg #[.int .i64 a,.int .i64 b]) (.agg #[.int .i64 c,.int .i64 d])).run Tryz.prog w = .ok (a == c && b == d) w:=by
 have u3:=Tryz.underlying3
 have a3:=Tryz.isAgg3
 have z3:=Tryz.sizeOf3
 have hS:Tryz.prog.underlying 189=some (.struct (Tryz.prog.fieldsOf 189)):=by kernel_rfl
 have hp:Tryz.prog.stoodInHeld 189=false:=by kernel_rfl
 unfold Op.equal Op.maxDepth
 rw[show (10000:Nat)=9999+1 from rfl,run_equalIn_agg w 9999 189 _ _ hS hp]
 simp only[Program.fieldsOf,Tryz.underlying189]
 go_simp
 by_cases h1:a=c <;> by_cases h2:b=d <;> simp[h1,h2]
theorem keySidc (em:Bool) (a b:Int) (w:World):(Instr.checkKey em 10000 189 (.agg #[.int .i64 a,.int .i64 b])).run Tryz.prog w = .ok () w:=by
 have u3:=Tryz.underlying3
 have a3:=Tryz.isAgg3
 have z3:=Tryz.sizeOf3
 have hc:=chkIS em
 rw[show (10000:Nat)=9999+1 from rfl,Instr.checkKey]
 simp only[Sem.run_bind,zJ Tryz.underlying189,Result.andThen_ok]
 go_simp
theorem keyS:KeyOk Tryz.prog 189 encS:=by
 refine .ask Tryz.underlying189 (fun _ _=>rfl) (fun a b w=>?_) (fun b a w=>keySidc _ _ _ w) (fun a=>?_)
 ·simp only[encS]
  rw[keySide]
  congr 1
  rw[Bool.eq_iff_iff]
  simp[sid_eq]
 ·simp[encS,Instr.sameBits]
theorem rd_to {P:Program} {N:Nat} {E:Env} {F:Fm} {H:List OB} {o:Oper} {l l':List AV} (e:l=l') (h:Rd P N E o F H (.a l)):Rd P N E o F H (.a l'):=e▸h
theorem zX3 (n:Int) (b:Bool) (h:farI n=b):ACalls Tryz.prog 109 [.c (I n)] [] fun u H=>u = .c (B b)∧H = []:=h▸farI_v n
theorem zm8 (v w:Value) (V:List Vec3) (Fs:List Fac3) (hVl:V.length≤1000000) (hFl:Fs.length≤1000000):ACalls Tryz.prog 47 [mshA v w V Fs] [] fun u H=>u = .c (I (mshF V Fs))∧H = []:=by
 have e1:(vR V).length=V.length:=by simp
 have e2:(fR Fs).length=Fs.length:=by simp
 have e1':(V.map Vec3.row).length=V.length:=by simp
 have e2':(Fs.map Fac3.row).length=Fs.length:=by simp
 refine zb (N:=82) Tryz.func47 rfl rfl (by simp) fun E hE=>?_
 refine WA ?_
 refine WA ?_
 refine zl rfl (fun h0=>?_) (fun h0=>?_)
 ·refine WA ?_
  refine arz (q:=⟨?_,rfl⟩)
  rw[mshF,if_pos (List.eq_nil_of_length_eq_zero (show Fs.length=0 by omega))]
 have hne:¬Fs = []:=fun h=>by rw[h] at h0;simp at h0
 refine ZZ ?_
 by_cases hb:1000 < V.length∨1000 < Fs.length
 ·have hres:mshF V Fs=2:=by rw[mshF,if_neg hne,if_pos hb]
  by_cases hb1:(1000:Int) < ((V.map Vec3.row).length:Int)
  ·refine WA ?_
   refine zd rfl ?_
   refine WA ?_
   exact arz (q:=⟨by rw[hres],rfl⟩)
  ·refine WA ?_
   refine zh rfl (fun _=>?_) (fun h=>absurd h (by simp;try omega))
   refine WA ?_
   exact arz (q:=⟨by rw[hres],rfl⟩)
 have hb1:¬(1000:Int) < ((V.map Vec3.row).length:Int):=fun h=>hb (.inl (by omega))
 have hb2:¬1000 < Fs.length:=fun h=>hb (.inr h)
 refine WA ?_
 refine zh rfl (fun h=>absurd h (by simp;try omega)) (fun _=>?_)
 refine WA ?_
 refine zm (fun m F H=>∃(k:Nat),m+k=V.length∧(V.drop k).any farV=V.any farV∧F = [(1,.p 0 0 0),(28,.c (.r v (vR V))),(29,.c (I (vR V).length)),(30,.c (I k))]∧H = [mBox v w V (fR Fs)]) ?_ ?_
 ·refine wkg [some 0] (fun _=>[(1,.p 0 0 0),(28,.c (.r v (vR V))),(29,.c (I (vR V).length)),(30,.c (I (0:Nat)))]) (fun _=>[mBox v w V (fR Fs)]) (fun _=>?_)
  exact⟨V.length,0,by omega,rfl,rfl,rfl⟩
 ·rintro m F H ⟨k,hk,hf,rfl,rfl⟩
  refine WA ?_
  refine zl rfl (fun hlt=>?_) (fun hge=>?_)
  ·obtain⟨z,hz⟩:∃z,V[k]?=some z:=⟨_,List.getElem?_eq_getElem (by omega)⟩
   have hfd:=zk3 farV hz
   obtain⟨zx,zy,zz⟩:=z
   have hrow:(vR V)[k]?=some [I zx,I zy,I zz]:=by rw[List.getElem?_map,hz];rfl
   have hfar:farV ⟨zx,zy,zz⟩=true→mshF V Fs=1:=fun h=>by
    have h2:V.any farV=true:=by rw[←hf,hfd,h];rfl
    rw[mshF,if_neg hne,if_neg hb,if_pos h2]
   refine WA ?_
   cases hx:farI zx with
   | true=>
    refine WR ?_
    refine zf rfl (zn false (fun _=>zX3 zx true hx) rfl .fn rfl (by decide) (by kernel_rfl) rfl (fun _g=>.cons (.c rfl) .nil) (by simp)) ?_
    rintro _ _ ⟨_,_,_,⟨rfl,rfl⟩,hF,hH⟩
    (refine NST hF hH ?_;clear hF hH;rintro rfl rfl)
    refine WE ?_
    refine zd rfl ?_
    refine WA ?_
    exact arz (q:=⟨by rw[hfar (by simp[farV,hx])],rfl⟩)
   | false=>
    cases hy:farI zy with
    | true=>
     refine WR ?_
     refine zf rfl (zn false (fun _=>zX3 zx false hx) rfl .fn rfl (by decide) (by kernel_rfl) rfl (fun _g=>.cons (.c rfl) .nil) (by simp)) ?_
     rintro _ _ ⟨_,_,_,⟨rfl,rfl⟩,hF,hH⟩
     (refine NST hF hH ?_;clear hF hH;rintro rfl rfl)
     refine WO ?_
     refine G1 rfl ?_
     refine zf rfl (zn false (fun _=>zX3 zy true hy) rfl .fn rfl (by decide) (by kernel_rfl) rfl (fun _g=>.cons (.c rfl) .nil) (by simp)) ?_
     rintro _ _ ⟨_,_,_,⟨rfl,rfl⟩,hF,hH⟩
     (refine NST hF hH ?_;clear hF hH;rintro rfl rfl)
     refine WE ?_
     refine zd rfl ?_
     refine WA ?_
     exact arz (q:=⟨by rw[hfar (by simp[farV,hy])],rfl⟩)
    | false=>
     cases hzz:farI zz with
     | true=>
      refine WR ?_
      refine zf rfl (zn false (fun _=>zX3 zx false hx) rfl .fn rfl (by decide) (by kernel_rfl) rfl (fun _g=>.cons (.c rfl) .nil) (by simp)) ?_
      rintro _ _ ⟨_,_,_,⟨rfl,rfl⟩,hF,hH⟩
      (refine NST hF hH ?_;clear hF hH;rintro rfl rfl)
      refine WO ?_
      refine G1 rfl ?_
      refine zf rfl (zn false (fun _=>zX3 zy false hy) rfl .fn rfl (by decide) (by kernel_rfl) rfl (fun _g=>.cons (.c rfl) .nil) (by simp)) ?_
      rintro _ _ ⟨_,_,_,⟨rfl,rfl⟩,hF,hH⟩
      (refine NST hF hH ?_;clear hF hH;rintro rfl rfl)
      refine WO ?_
      refine G1 rfl ?_
      refine zf rfl (zn false (fun _=>zX3 zz true hzz) rfl .fn rfl (by decide) (by kernel_rfl) rfl (fun _g=>.cons (.c rfl) .nil) (by simp)) ?_
      rintro _ _ ⟨_,_,_,⟨rfl,rfl⟩,hF,hH⟩
      (refine NST hF hH ?_;clear hF hH;rintro rfl rfl)
      refine WE ?_
      refine zd rfl ?_
      refine WA ?_
      exact arz (q:=⟨by rw[hfar (by simp[farV,hzz])],rfl⟩)
     | false=>
      refine WR ?_
      refine zf rfl (zn false (fun _=>zX3 zx false hx) rfl .fn rfl (by decide) (by kernel_rfl) rfl (fun _g=>.cons (.c rfl) .nil) (by simp)) ?_
      rintro _ _ ⟨_,_,_,⟨rfl,rfl⟩,hF,hH⟩
      (refine NST hF hH ?_;clear hF hH;rintro rfl rfl)
      refine WO ?_
      refine G1 rfl ?_
      refine zf rfl (zn false (fun _=>zX3 zy false hy) rfl .fn rfl (by decide) (by kernel_rfl) rfl (fun _g=>.cons (.c rfl) .nil) (by simp)) ?_
      rintro _ _ ⟨_,_,_,⟨rfl,rfl⟩,hF,hH⟩
      (refine NST hF hH ?_;clear hF hH;rintro rfl rfl)
      refine WO ?_
      refine G1 rfl ?_
      refine zf rfl (zn false (fun _=>zX3 zz false hzz) rfl .fn rfl (by decide) (by kernel_rfl) rfl (fun _g=>.cons (.c rfl) .nil) (by simp)) ?_
      rintro _ _ ⟨_,_,_,⟨rfl,rfl⟩,hF,hH⟩
      (refine NST hF hH ?_;clear hF hH;rintro rfl rfl)
      refine WE ?_
      refine za rfl ?_
      refine WA ?_
      refine wkg [some 0] (fun _=>[(1,.p 0 0 0),(28,.c (.r v (vR V))),(29,.c (I (vR V).length)),(30,.c (I (k+1:Nat)))]) (fun _=>[mBox v w V (fR Fs)]) (fun _=>?_)
      exact⟨m - 1,by omega,k+1,by omega,by rw[←hf,hfd];simp[farV,hx,hy,hzz],rfl,rfl⟩
  have hfar:¬V.any farV=true:=by
   rw[←hf,List.drop_eq_nil_of_le (by omega)];simp
  have hV:∀v∈V,farV v=false:=fun v hv=>by
   cases hq:farV v with
   | false=>rfl
   | true=>exact absurd (List.any_eq_true.2 ⟨v,hv,hq⟩) hfar
  have e3:mshF V Fs=if fst0 (Fs.map (ffR V))≠0 then fst0 (Fs.map (ffR V)) else if dupS [] (Fs.flatMap sds)=true then 6 else 0:=by rw[mshF,if_neg hne,if_neg hb,if_neg hfar]
  refine WA ?_
  refine zm (fun m F H=>∃(k:Nat),m+k=Fs.length∧fst0 ((Fs.map (ffR V)).take k)=0∧F = [(1,.p 0 0 0),(49,.c (.r w (fR Fs))),(50,.c (I (fR Fs).length)),(51,.c (I k))]∧H = [mBox v w V (fR Fs)]) ?_ ?_
  ·refine wkg [some 0] (fun _=>[(1,.p 0 0 0),(49,.c (.r w (fR Fs))),(50,.c (I (fR Fs).length)),(51,.c (I (0:Nat)))]) (fun _=>[mBox v w V (fR Fs)]) (fun _=>?_)
   exact⟨Fs.length,0,by omega,by simp[fst0],rfl,rfl⟩
  ·rintro m F H ⟨k,hk,hf,rfl,rfl⟩
   refine WA ?_
   refine zl rfl (fun hlt=>?_) (fun hge=>?_)
   ·obtain⟨f,hz⟩:∃z,Fs[k]?=some z:=⟨_,List.getElem?_eq_getElem (by omega)⟩
    have hmap:(Fs.map (ffR V))[k]?=some (ffR V f):=by rw[List.getElem?_map,hz];rfl
    obtain⟨fa,fb,fc⟩:=f
    have hrow:(fR Fs)[k]?=some [I fa,I fb,I fc]:=by rw[List.getElem?_map,hz];rfl
    refine WA ?_
    refine WR ?_
    refine zf rfl (efk (c:=fun _=>zg8 v w V (fR Fs) ⟨fa,fb,fc⟩ hV (by omega))) ?_
    rintro _ _ ⟨_,_,_,⟨rfl,rfl⟩,hF,hH⟩
    (refine NST hF hH ?_;clear hF hH;rintro rfl rfl)
    refine WE ?_
    refine WA ?_
    refine zl rfl (fun hv=>?_) (fun hv=>?_)
    ·refine WA ?_
     refine arz (q:=⟨?_,rfl⟩)
     rw[ffP_R] at hv ⊢
     rw[e3,zj11 hf hmap hv,if_pos hv]
    ·refine WA ?_
     refine wkg [some 0] (fun _=>[(1,.p 0 0 0),(49,.c (.r w (fR Fs))),(50,.c (I (fR Fs).length)),(51,.c (I (k+1:Nat)))]) (fun _=>[mBox v w V (fR Fs)]) (fun _=>?_)
     rw[ffP_R] at hv
     exact⟨m - 1,by omega,k+1,by omega,zr7 hf hmap (by omega),rfl,rfl⟩
   have hall:fst0 (Fs.map (ffR V))=0:=by
    rw[List.take_of_length_le (by simp;omega)] at hf;exact hf
   rw[if_neg (by rw[hall];simp)] at e3
   refine ZR ?_
   refine zf rfl (zW1 rfl rfl (by decide)) ?_
   rintro _ _ ⟨rfl,rfl⟩
   refine WE ?_
   refine WA ?_
   refine zm (fun m F H=>∃(k mk:Nat) (ml:List (Nat × Sid2 × Bool)),m+k=Fs.length∧dupS [] ((Fs.take k).flatMap sds)=false∧(∀s,(mget ml s).getD false=((Fs.take k).flatMap sds).contains s)∧F = [(1,.p 0 0 0),(8,.mp 1),(64,.c (.r w (fR Fs))),(65,.c (I (fR Fs).length)),(66,.c (I k))]∧H = [mBox v w V (fR Fs),mpO encS encBS ml mk]) ?_ ?_
   ·refine wkg [some 0,some 1] (fun _=>[(1,.p 0 0 0),(8,.mp 1),(64,.c (.r w (fR Fs))),(65,.c (I (fR Fs).length)),(66,.c (I (0:Nat)))]) (fun _=>[mBox v w V (fR Fs),mpO encS encBS [] 0]) (fun _=>?_)
    exact⟨Fs.length,0,0,[],by omega,by simp[dupS],by simp[mget],rfl,rfl⟩
   ·rintro m F H ⟨k,mk,ml,hk,hd,hm,rfl,rfl⟩
    refine WA ?_
    refine zl rfl (fun hlt=>?_) (fun hge=>?_)
    ·obtain⟨f,hz⟩:∃z,Fs[k]?=some z:=⟨_,List.getElem?_eq_getElem (by omega)⟩
     obtain⟨fa,fb,fc⟩:=f
     have hrow:(fR Fs)[k]?=some [I fa,I fb,I fc]:=by rw[List.getElem?_map,hz];rfl
     refine WA ?_
     refine WR ?_
     refine zf rfl (efk (c:=fun _=>sides_v ⟨fa,fb,fc⟩)) ?_
     rintro _ _ ⟨_,_,_,⟨rfl,rfl⟩,hF,hH⟩
     (refine NST hF hH ?_;clear hF hH;rintro rfl rfl)
     refine WE ?_
     generalize hL:(Fs.take k).flatMap sds=L at hd hm ⊢
     refine zm (fun m2 F H=>∃(j mk:Nat) (ml:List (Nat × Sid2 × Bool)),m2+j=3∧dupS [] (L++(sds ⟨fa,fb,fc⟩).take j)=false∧(∀s,(mget ml s).getD false=(L++(sds ⟨fa,fb,fc⟩).take j).contains s)∧F = [(1,.p 0 0 0),(8,.mp 1),(64,.c (.r w (fR Fs))),(65,.c (I (fR Fs).length)),(66,.c (I k)),(71,.a ((sdsC ⟨fa,fb,fc⟩).map .c)),(72,.c (I j))]∧H = [mBox v w V (fR Fs),mpO encS encBS ml mk]) ?_ ?_
     ·refine wkg [some 0,some 1] (fun _=>[(1,.p 0 0 0),(8,.mp 1),(64,.c (.r w (fR Fs))),(65,.c (I (fR Fs).length)),(66,.c (I k)),(71,.a ((sdsC ⟨fa,fb,fc⟩).map .c)),(72,.c (I (0:Nat)))]) (fun _=>[mBox v w V (fR Fs),mpO encS encBS ml mk]) (fun _=>?_)
      exact⟨3,0,mk,ml,rfl,by simpa using hd,by simpa using hm,rfl,rfl⟩
     ·rintro m2 F H ⟨j,mk,ml,hj,hd2,hm2,rfl,rfl⟩
      refine WA ?_
      refine zl rfl (fun hlt2=>?_) (fun hge2=>?_)
      ·obtain⟨s,hs⟩:∃s,(sds ⟨fa,fb,fc⟩)[j]?=some s:=⟨_,List.getElem?_eq_getElem (by simp[sds];omega)⟩
       obtain⟨sf,st⟩:=s
       have hix:(((sdsC ⟨fa,fb,fc⟩).map AV.c).drop (j*2)).take 2 = [.c (I sf),.c (I st)]:=by
        have:j=0∨j=1∨j=2:=by omega
        rcases this with rfl|rfl|rfl <;> (simp[sds] at hs;obtain⟨rfl,rfl⟩:=hs;rfl)
       have htk:(sds ⟨fa,fb,fc⟩).take (j+1)=(sds ⟨fa,fb,fc⟩).take j++[⟨sf,st⟩]:=by rw[List.take_add_one,hs];rfl
       have hsp:=zM8 hz j
       rw[hL] at hsp
       have hdr:(sds ⟨fa,fb,fc⟩).drop j=⟨sf,st⟩ :: (sds ⟨fa,fb,fc⟩).drop (j+1):=by
        obtain⟨h1,h2⟩:=List.getElem?_eq_some_iff.1 hs
        rw[List.drop_eq_getElem_cons h1,h2]
       generalize hM:L++(sds ⟨fa,fb,fc⟩).take j=M at hd2 hm2 hsp ⊢
       refine ZR ?_
       refine ZA (rd_to hix (rd_ixv (n:=3) (i:=j) rfl (by kernel_rfl) (KK (t:=189) rfl) rfl rfl rfl (by omega))) ?_
       refine WE ?_
       refine ZR ?_
       iterate 2 refine WX1 ?_
       refine ZA (ze3 (ke:=encS) (ve:=encBS) (k:=⟨sf,st⟩) (z:=false) (l:=ml) (ck:=mk) keyS rfl Tryz.underlying194 (by kernel_rfl) rfl rfl rfl (fun ρ H=>by simp[AV.den,AV.denL,CV.den,encS])) ?_
       refine WE ?_
       refine zh (b:=(mget ml ⟨sf,st⟩).getD false) rfl (fun hb=>?_) (fun hb=>?_)
       ·refine WA ?_
        refine arz (q:=⟨?_,rfl⟩)
        rw[hm2] at hb
        have:dupS [] (Fs.flatMap sds)=true:=by rw[hsp,hdr,List.cons_append];exact zk9 hb
        rw[e3,if_pos this]
       ·refine ZR ?_
        iterate 2 refine WX1 ?_
        refine zf rfl (zj3 (ke:=encS) (ve:=encBS) (k:=⟨sf,st⟩) (z:=true) (l:=ml) (ck:=mk) keyS rfl rfl Tryz.underlying194 rfl rfl rfl (fun ρ H=>by simp[AV.den,AV.denL,CV.den,encS]) rfl (fun ρ H=>rfl)) ?_
        rintro _ _ ⟨rfl,rfl⟩
        refine WE ?_
        refine WA ?_
        refine wkg [some 0,some 1] (fun _=>[(1,.p 0 0 0),(8,.mp 1),(64,.c (.r w (fR Fs))),(65,.c (I (fR Fs).length)),(66,.c (I k)),(71,.a ((sdsC ⟨fa,fb,fc⟩).map .c)),(72,.c (I (j+1:Nat)))]) (fun _=>[mBox v w V (fR Fs),mpO encS encBS (mset mk ⟨sf,st⟩ true ml) (mclk mk ⟨sf,st⟩ ml)]) (fun _=>?_)
        refine⟨m2 - 1,by omega,j+1,_,_,by omega, ?_,fun s=>?_,rfl,rfl⟩
        ·rw[htk,←List.append_assoc,hM,zw7 hd2,←hm2];exact hb
        ·rw[htk,←List.append_assoc,hM,zK1]
         by_cases h:s=⟨sf,st⟩
         ·rw[if_pos h,h];simp
         ·rw[if_neg h,hm2];simp[h]
      refine ZZ ?_
      obtain rfl:j=3:=by omega
      have h6:L++(sds ⟨fa,fb,fc⟩).take 3=(Fs.take (k+1)).flatMap sds:=by rw[zK7 hz,hL];rfl
      rw[h6] at hd2 hm2
      refine WA ?_
      refine wkg [some 0,some 1] (fun _=>[(1,.p 0 0 0),(8,.mp 1),(64,.c (.r w (fR Fs))),(65,.c (I (fR Fs).length)),(66,.c (I (k+1:Nat)))]) (fun _=>[mBox v w V (fR Fs),mpO encS encBS ml mk]) (fun _=>?_)
      exact⟨m - 1,by omega,k+1,mk,ml,by omega,hd2,hm2,rfl,rfl⟩
    refine WA ?_
    refine arz (q:=⟨?_,rfl⟩)
    rw[List.take_of_length_le (by omega)] at hd
    rw[e3,hd];rfl
end Go.Proofs.YtophoepbedlhjaaGreatDoor
-- NEWM
namespace Go.Proofs.YtophoepbedlhjaaGreatDoor
open Go Go.RowKit
set_option maxRecDepth 100000
abbrev flR (l:List Bool):List (List CV):=l.map fun b=>[B b]
def flagL (n:Nat) (Fs:List Fac3):List Bool:=(List.range n).map (usedI Fs)
theorem zS4 (n:Nat) (Fs:List Fac3):(flagL n Fs).length=n:=by simp[flagL]
theorem zl11 {n k:Nat} {Fs:List Fac3} {ia ib ic:Nat} (h:Fs[k]?=some ⟨ia,ib,ic⟩):flagL n (Fs.take (k+1))=(((flagL n (Fs.take k)).set ia true).set ib true).set ic true:=by
 refine List.ext_getElem? fun i=>?_
 rw[List.getElem?_set,List.getElem?_set,List.getElem?_set]
 simp only[flagL,List.length_set,List.length_map,List.length_range,List.getElem?_map]
 have hu:=zw9 (k:=k) h i
 simp only at hu
 by_cases hi:i < n
 ·rw[List.getElem?_range hi]
  simp only[Option.map_some,hu]
  by_cases h1:ic=i
  ·subst h1;simp[hi]
  ·rw[if_neg h1]
   by_cases h2:ib=i
   ·subst h2;simp[hi]
   ·rw[if_neg h2]
    by_cases h3:ia=i
    ·subst h3;simp[hi]
    ·rw[if_neg h3]
     have a1:¬((ia:Int)=(i:Int)):=by omega
     have a2:¬((ib:Int)=(i:Int)):=by omega
     have a3:¬((ic:Int)=(i:Int)):=by omega
     simp[a1,a2,a3]
 ·have hr:(List.range n)[i]?=none:=List.getElem?_eq_none (by simp;omega)
  rw[hr]
  split
  ·rename_i e;subst e;simp[hi]
  ·split
   ·rename_i e;subst e;simp[hi]
   ·split
    ·rename_i e;subst e;simp[hi]
    ·rfl
theorem zm11 (l:List Bool) (i:Nat) (h:i < l.length):∃b,(flR l)[i]?=some [B b]:=⟨l[i],by simp[flR,h]⟩
theorem usedM_v (v w:Value) (V:List Vec3) (Fs:List Fac3) (hM:MOk V Fs):ACalls Tryz.prog 113 [mshA v w V Fs] [] fun u H=>∃q,u = .c (.r q (flR (flagL V.length Fs)))∧H = []:=by
 have e1:(vR V).length=V.length:=by simp
 have e2:(fR Fs).length=Fs.length:=by simp
 have e1':(V.map Vec3.row).length=V.length:=by simp
 have e2':(Fs.map Fac3.row).length=Fs.length:=by simp
 have hlv:=hM.lv
 have hlf:=hM.lf
 refine zb (N:=31) Tryz.func113 rfl rfl (by simp) fun E hE=>?_
 refine WA ?_
 refine WR ?_
 refine WE ?_
 refine WA ?_
 refine zm (fun m F H=>∃(k:Nat),m+k=Fs.length∧F = [(1,.p 0 0 0),(3,.o 1 0 (V.map Vec3.row).length (V.map Vec3.row).length),(11,.c (.r w (fR Fs))),(12,.c (I (fR Fs).length)),(13,.c (I k))]∧H = [mBox v w V (fR Fs),.arr 4 1 V.length (flR (flagL V.length (Fs.take k)))]) ?_ ?_
 ·refine wkg [some 0,some 1] (fun _=>[(1,.p 0 0 0),(3,.o 1 0 (V.map Vec3.row).length (V.map Vec3.row).length),(11,.c (.r w (fR Fs))),(12,.c (I (fR Fs).length)),(13,.c (I (0:Nat)))]) (fun _=>[mBox v w V (fR Fs),.arr 4 1 V.length (List.replicate V.length [B false])]) (fun _=>?_)
  refine⟨Fs.length,0,by omega,rfl, ?_⟩
  have:flR (flagL V.length (Fs.take 0))=List.replicate V.length [B false]:=by
   simp[flagL,usedI,List.eq_replicate_iff]
  rw[this]
 rintro m F H ⟨k,hk,rfl,rfl⟩
 refine WA ?_
 refine zl rfl (fun hlt=>?_) (fun hge=>?_)
 ·obtain⟨f,hz⟩:∃z,Fs[k]?=some z:=⟨_,List.getElem?_eq_getElem (by omega)⟩
  obtain⟨h1,h2,h3⟩:=hM.ix (List.mem_of_getElem? hz)
  obtain⟨fa,fb,fc⟩:=f
  simp only at h1 h2 h3
  obtain⟨ia,ha⟩:∃i:Nat,fa=i:=⟨fa.toNat,by omega⟩
  obtain⟨ib,hb⟩:∃i:Nat,fb=i:=⟨fb.toNat,by omega⟩
  obtain⟨ic,hc⟩:∃i:Nat,fc=i:=⟨fc.toNat,by omega⟩
  subst ha;subst hb;subst hc
  have hrow:(fR Fs)[k]?=some [I ia,I ib,I ic]:=by rw[List.getElem?_map,hz];rfl
  have hfl:=zS4 V.length (Fs.take k)
  have hst:flR (flagL V.length (Fs.take (k+1)))=(((flR (flagL V.length (Fs.take k))).set ia [B true]).set ib [B true]).set ic [B true]:=by
   rw[zl11 hz]
   simp only[flR,List.map_set]
  generalize flagL V.length (Fs.take k)=fl at hfl hst ⊢
  have hfl2:(flR fl).length=V.length:=by simp[hfl]
  have s1:(flR fl).set (0+ia) [B true]=flR (fl.set ia true):=by rw[Nat.zero_add,flR,flR];simp only[List.map_set]
  have s2:((flR fl).set (0+ia) [B true]).set (0+ib) [B true]=flR ((fl.set ia true).set ib true):=by rw[s1,Nat.zero_add,flR,flR];simp only[List.map_set]
  obtain⟨ba,hra⟩:∃b,(flR fl)[0+ia]?=some [B b]:=zm11 _ _ (by omega)
  obtain⟨bb,hrb⟩:∃b,((flR fl).set (0+ia) [B true])[0+ib]?=some [B b]:=by rw[s1];exact zm11 _ _ (by simp;omega)
  obtain⟨bc,hrc⟩:∃b,(((flR fl).set (0+ia) [B true]).set (0+ib) [B true])[0+ic]?=some [B b]:=by rw[s2];exact zm11 _ _ (by simp;omega)
  refine WA ?_
  refine ZZ ?_
  refine zc [(0,none),(1,none),(2,none),(3,none),(4,none),(5,none),(6,none),(7,none),(8,none),(9,none),(10,some [3,4,5,6,7,8]),(11,none),(12,some [6,7,8]),(13,none),(14,some [])] zo (by kernel_rfl) ?_
  refine WQ ?_
  refine WA ?_
  refine wkg [some 0,some 1] (fun _=>[(1,.p 0 0 0),(3,.o 1 0 (V.map Vec3.row).length (V.map Vec3.row).length),(11,.c (.r w (fR Fs))),(12,.c (I (fR Fs).length)),(13,.c (I (k+1:Nat)))]) (fun _=>[mBox v w V (fR Fs),.arr 4 1 V.length ((((flR fl).set ia [B true]).set ib [B true]).set ic [B true])]) (fun _=>?_)
  exact⟨m - 1,by omega,k+1,by omega,rfl,by rw[hst]⟩
 refine WA ?_
 obtain rfl:k=Fs.length:=by omega
 exact zt8 [] _ rfl rfl rfl rfl (by rw[List.drop_zero,List.take_of_length_le (by simp[zS4])]) (by simp[zS4]) rfl (by decide) (ZNK rfl) (fun _=>.nil) (fun q=>⟨q,by rw[List.take_of_length_le (Nat.le_refl _)],rfl⟩)
abbrev vBox (x y z:Int):OB:=.box [.c (I x),.c (I y),.c (I z)]
theorem aret_c2 {fn:Func} {nl p q k:Nat} {ty:TypeId} {Qr:AV→List OB→Prop} {F:Fm} {H:List OB} {u v:AV} {a b a' b':List AV} (hr:fn.results=#[.cell p ty,.cell q ty]) (hk:ldk Tryz.prog ty=some (some k)) (h1:F.lookup p=some u) (h2:F.lookup q=some v)
    (c1:Cells H u a) (c2:Cells H v b) (n1:k≤a.length) (n2:k≤b.length) (e1:a.take k=a') (e2:b.take k=b') (hl:nl=0) (v1:∀g,CvL g [] H true a' a') (v2:∀g,CvL g [] H true b' b') (hq:Qr (.t [.a a',.a b']) []):ARet Tryz.prog fn nl Qr .ret F H:=by
 subst hl
 exact zI (us:=[.a a',.a b']) [] (fun _=>.t [.a a',.a b']) (fun _=>[]) (by rw[hr];exact .cella h1 hk c1 n1 e1 (.cella h2 hk c2 n2 e2 .nil)) (by decide) (fun i hi=>absurd hi (Nat.not_lt_zero i)) (fun g=>.tL (.cons (.aL (v1 g)) (.cons (.aL (v2 g)) .nil))) (fun _=>.nil) (fun _=>hq)
theorem boxof_v (v w:Value) (V:List Vec3) (Fs:List Fac3) (hM:MOk V Fs):ACalls Tryz.prog 49 [mshA v w V Fs] [] fun u H=>∃lo hi:Vec3,u = .t [.a (lo.row.map .c),.a (hi.row.map .c)]∧H = []∧lo.z=loZ V Fs∧hi.z=hiZ V Fs:=by
 have e1:(vR V).length=V.length:=by simp
 have e1':(V.map Vec3.row).length=V.length:=by simp
 have hlv:=hM.lv
 have e3:(flR (flagL V.length Fs)).length=V.length:=by simp[zS4]
 refine zb (N:=63) Tryz.func49 rfl rfl (by simp) fun E hE=>?_
 refine WA ?_
 refine WA ?_
 refine WR ?_
 refine zf rfl (efk (c:=fun _=>usedM_v v w V Fs hM)) ?_
 rintro _ _ ⟨_,_,_,⟨q,rfl,rfl⟩,hF,hH⟩
 (refine NST hF hH ?_;clear hF hH;rintro rfl rfl)
 refine WE ?_
 refine zm (fun m F H=>∃(k:Nat) (lx ly lz hx hy hz:Int),m+k=V.length∧lz=minL (uzs V Fs k)∧hz=maxL (uzs V Fs k)∧F = [(1,.p 0 0 0),(2,.p 1 0 0),(3,.p 2 0 0),(4,.c (B (decide (uzs V Fs k = [])))),(9,.c (.r q (flR (flagL V.length Fs)))),(10,.c (I (flR (flagL V.length Fs)).length)),(11,.c (I k))]∧H = [mBox v w V (fR Fs),vBox lx ly lz,vBox hx hy hz]) ?_ ?_
 ·refine wkg [some 0,some 1,some 2] (fun _=>[(1,.p 0 0 0),(2,.p 1 0 0),(3,.p 2 0 0),(4,.c (B true)),(9,.c (.r q (flR (flagL V.length Fs)))),(10,.c (I (flR (flagL V.length Fs)).length)),(11,.c (I (0:Nat)))]) (fun _=>[mBox v w V (fR Fs),vBox 0 0 0,vBox 0 0 0]) (fun _=>?_)
  exact⟨V.length,0,0,0,0,0,0,0,by omega,rfl,rfl,rfl,rfl⟩
 rintro m F H ⟨k,lx,ly,lz,hx,hy,hz,hk,hlz,hhz,rfl,rfl⟩
 refine WA ?_
 refine zl rfl (fun hlt=>?_) (fun hge=>?_)
 ·have hkv:k < V.length:=by omega
  have hrowb:(flR (flagL V.length Fs))[k]?=some [B (usedI Fs k)]:=by simp[flR,flagL,hkv]
  have hrow:=vrow hkv
  have hun:=uzs_next V Fs k
  generalize vx V (k:Int)=z at hrow hun
  obtain⟨zx,zy,zz⟩:=z
  simp only at hun
  generalize usedI Fs k=bu at hrowb hun
  cases bu with
  | false=>
   rw[if_neg (by simp)] at hun
   refine WA ?_
   refine WA ?_
   refine WA ?_
   refine zd rfl ?_
   refine WA ?_
   refine wkg [some 0,some 1,some 2] (fun _=>[(1,.p 0 0 0),(2,.p 1 0 0),(3,.p 2 0 0),(4,.c (B (decide (uzs V Fs k = [])))),(9,.c (.r q (flR (flagL V.length Fs)))),(10,.c (I (flR (flagL V.length Fs)).length)),(11,.c (I (k+1:Nat)))]) (fun _=>[mBox v w V (fR Fs),vBox lx ly lz,vBox hx hy hz]) (fun _=>?_)
   exact⟨m - 1,by omega,k+1,lx,ly,lz,hx,hy,hz,by omega,by rw[hun];exact hlz,by rw[hun];exact hhz,by rw[hun],rfl⟩
  | true=>
   rw[if_pos rfl] at hun
   by_cases hL:uzs V Fs k = []
   ·refine WA ?_
    refine WA ?_
    refine WA ?_
    refine za rfl ?_
    refine WA ?_
    refine zl rfl (fun _=>?_) (fun h=>absurd hL h)
    refine ZZ ?_
    refine zc [(0,none),(1,none),(2,some [1]),(3,some []),(4,none)] zo (by kernel_rfl) ?_
    refine WQ ?_
    refine WA ?_
    refine wkg [some 0,some 1,some 2] (fun _=>[(1,.p 0 0 0),(2,.p 1 0 0),(3,.p 2 0 0),(4,.c (B false)),(9,.c (.r q (flR (flagL V.length Fs)))),(10,.c (I (flR (flagL V.length Fs)).length)),(11,.c (I (k+1:Nat)))]) (fun _=>[mBox v w V (fR Fs),vBox zx zy zz,vBox zx zy zz]) (fun _=>?_)
    rw[hL] at hun
    exact⟨m - 1,by omega,k+1,zx,zy,zz,zx,zy,zz,by omega,by rw[hun];rfl,by rw[hun];rfl,by rw[hun];rfl,rfl⟩
   ·refine WA ?_
    refine WA ?_
    refine WA ?_
    refine za rfl ?_
    refine WA ?_
    refine zl rfl (fun h=>absurd h hL) (fun _=>?_)
    refine WA ?_
    refine WA ?_
    refine WA ?_
    refine wkg [some 0,some 1,some 2] (fun _=>[(1,.p 0 0 0),(2,.p 1 0 0),(3,.p 2 0 0),(4,.c (B false)),(9,.c (.r q (flR (flagL V.length Fs)))),(10,.c (I (flR (flagL V.length Fs)).length)),(11,.c (I (k+1:Nat)))]) (fun _=>[mBox v w V (fR Fs),vBox (min lx zx) (min ly zy) (min lz zz),vBox (max hx zx) (max hy zy) (max hz zz)]) (fun _=>?_)
    refine⟨m - 1,by omega,k+1,_,_,_,_,_,_,by omega, ?_, ?_, ?_,rfl⟩
    ·rw[hun,zU10 hL,hlz]
    ·rw[hun,zX10 hL,hhz]
    ·rw[hun];simp
 refine ZZ ?_
 refine zc [(0,none),(1,none),(2,some [1]),(3,some [])] zo (by kernel_rfl) ?_
 refine WQ ?_
 obtain rfl:k=V.length:=by omega
 obtain⟨b1,b2,b3⟩:=uzs_box hM
 exact aret_c2 rfl (KK (t:=90) rfl) rfl rfl (Cells.box rfl) (Cells.box rfl) (by simp) (by simp) (by(try simp only[nm,putL,Nat.reduceAdd,cellsOf,cvOf]) <;> rfl) (by(try simp only[nm,putL,Nat.reduceAdd,cellsOf,cvOf]) <;> rfl) rfl (fun _=>C0 rfl) (fun _=>C0 rfl) ⟨⟨lx,ly,lz⟩,⟨hx,hy,hz⟩,rfl,rfl,by rw[hlz,b2],by rw[hhz,b3]⟩
end Go.Proofs.YtophoepbedlhjaaGreatDoor
-- NEWM
namespace Go.Proofs.YtophoepbedlhjaaGreatDoor
open Go Go.RowKit
set_option maxRecDepth 100000
end Go.Proofs.YtophoepbedlhjaaGreatDoor
