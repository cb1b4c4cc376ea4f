/- From the row of JobsFollowed to the table of powers of ten. -/
import Derived.Test.YtophoepbedlhjaaGreatDoorQaz
import Derived.Test.YtophoepbedlhjaaGreatDoorQbc
import Derived.Test.YtophoepbedlhjaaGreatDoorQbl
import Derived.Test.YtophoepbedlhjaaGreatDoorQbm
import Derived.Test.YtophoepbedlhjaaGreatDoorQbv
import Derived.Test.YtophoepbedlhjaaGreatDoorQbh
import Derived.Test.YtophoepbedlhjaaGreatDoorQbg
import Derived.Test.YtophoepbedlhjaaGreatDoorQbb
import Derived.Test.YtophoepbedlhjaaGreatDoorRows
import Derived.Lib.LaidTab
import Derived.Stop.LaidErr
import Derived.MakeChecks
set_option linter.unusedSimpArgs false
set_option linter.unusedVariables false
-- NEWM
namespace Go.Proofs.YtophoepbedlhjaaGreatDoor
open Go Go.RowKit
set_option maxRecDepth 1000000
theorem zF17 {js:List Pr} {m0 m1:List (Nat × List UInt8 × List UInt8)} {c0 c1:Nat} (h0:MapOk m0 c0) (p0:(m0.map (·.2)).Perm js) (h1:MapOk m1 c1) (p1:(m1.map (·.2)).Perm js):srtP m0=srtP m1:=zI11 h0 ((ze5 h1.nk).trans (p1.trans p0.symm)) (zL9 m1)
set_option maxHeartbeats 1500000 in
theorem zt12 (v:Value) (zs:List Int) (hs:StrOk zs):ACallsW TabX false Tryz.prog 5 [.c (.r v (zs.map fun z=>[I z]))] [] fun u H=>u = .c (B true):=by
 refine zG4 zN6 false (N:=137) Tryz.func5 rfl rfl (by simp) fun E hE hP hX=>?_
 refine WA ?_
 refine WA ?_
 refine WR ?_
 refine ze rfl (zO [0] (fun _=>[strm v zs 0]) false (fun _=>zV7 12 (by omega) v zs 0 hs (by omega) (by omega)) rfl .fn rfl (by decide) (by kernel_rfl) rfl (fun _g=>.cons (.p rfl) (.cons (.c rfl) .nil)) (by decide) ZCH (by simp) (.inr hP)) ?_
 rintro F1 H1 ⟨_,_,_,_,⟨la,cla,ala,hfla,ha1la,ha2la,hlla,hck,hbla,hcla,rfl,rfl⟩,hF,hH⟩
 (refine NSU hF hH ?_;clear hF hH;rintro rfl rfl)
 refine WE ?_
 refine zQ4 (wkg (K:=fun F H=>∃va,F = [(3,.p 0 0 0),(4,.c (.r va (noRs la)))]∧H = [strm v zs ala]) [some 0] (fun g=>[(3,.p 0 0 0),(4,.c (.r (g (.o 1 0 la.length cla)) (noRs la)))]) (fun _=>[strm v zs ala]) (fun _=>⟨_,rfl,rfl⟩) (hF:=fun _=>.cons rfl (.p rfl) (.cons rfl (.frz rfl rfl (by rw[List.drop_zero,List.take_of_length_le (by simp)]) (by simp) rfl) .nil)) (hl:=ZNL hE)) ?_
 rintro F H ⟨va,rfl,rfl⟩
 refine WR ?_
 refine ze rfl (zO [0] (fun _=>[strm v zs ala]) false (fun _=>zG15 v va zs ala la hs (by omega) (by omega) (by omega)) rfl .fn rfl (by decide) (by kernel_rfl) rfl (fun _g=>.cons (.p rfl) (.cons (.c rfl) .nil)) (by decide) ZCH (by simp) (.inr hP)) ?_
 rintro F1 H1 ⟨_,_,_,_,⟨p,q,cp,cq,a2,hp,hq,hall,hcp,hcq,rfl,rfl⟩,hF,hH⟩
 (refine NSU hF hH ?_;clear hF hH;rintro rfl rfl)
 refine WE ?_
 refine zQ4 (wkg (K:=fun F H=>∃vp vq,F = [(4,.c (.r va (noRs la))),(5,.c (.r vp (noRs p))),(6,.c (.r vq (noRs q)))]∧H = []) [] (fun g=>[(4,.c (.r va (noRs la))),(5,.c (.r (g (.o 1 0 p.length cp)) (noRs p))),(6,.c (.r (g (.o 2 0 q.length cq)) (noRs q)))]) (fun _=>[]) (fun _=>⟨_,_,rfl,rfl⟩) (hF:=fun _=>.cons rfl (.c rfl) (.cons rfl (.frz rfl rfl (by rw[List.drop_zero,List.take_of_length_le (by simp)]) (by simp) rfl) (.cons rfl (.frz rfl rfl (by rw[List.drop_zero,List.take_of_length_le (by simp)]) (by simp) rfl) .nil))) (hl:=ZNL hE)) ?_
 rintro F H ⟨vp,vq,rfl,rfl⟩
 have hAs:∀x∈la,NtS x:=fun x hx=>(hbla x hx).s
 have hPs:∀x∈p,NtS x:=fun x hx=>hAs x (hp.subset hx)
 have hQs:∀x∈q,NtS x:=fun x hx=>hAs x (hq.subset hx)
 have hpl:=hp.length_le
 have hql:=hq.length_le
 have hn0:=(chkN_pw.1 hck).2.1
 have hll:la.length≤1000000:=by omega
 have eL:(noRs la).length=la.length:=by simp
 have htl:=zL6 hn0
 have htx:=zQ16 va la hll hAs (by omega)
 rw[if_pos hck,hck] at htx
 have hrd:=zb17 (txF la) (by omega)
 rw[zq17 hck hn0 (by omega)] at hrd
 have hstB:∀x∈la,stB x:=by
  have h:=zs14 (zs:=zs) (many:=12) (by omega) 8 0
  rw[hfla] at h
  exact h
 have hnst:=zO16 hck hstB
 have hyk:=za15 hck (by omega) hstB
 have hbk:=zw16 hck hnst
 have hJ:=(zy16 10000 hck).js
 obtain⟨Y,hY⟩:∃Y,la++[nfZ,nuZ]=Y:=⟨_,rfl⟩
 have hYs:∀x∈Y,NtS x:=fun x hx=>by
  rw[←hY] at hx
  rcases List.mem_append.1 hx with hx|hx
  ·exact hAs x hx
  ·simp only[List.mem_cons,List.not_mem_nil,or_false] at hx
   rcases hx with rfl|rfl <;> exact⟨by decide,by decide,by decide,by decide,by decide⟩
 have hYl:Y.length=la.length+2:=by rw[←hY];simp
 rw[hY] at hyk hbk
 have hYr:noRs la++[[T [122],I 1,I 10000,I 4,T [112],T [],T [],I 0,T [],I 0],[T [122],I 2,I 10000,I 7,T [],T [],T [],I 0,T [122],I 1]]=noRs Y:=by rw[←hY];exact(List.map_append (f:=noR) (l₁:=la) (l₂:=[nfZ,nuZ])).symm
 have ask:∀l:List Nt,chkN l=0→askF l 10000=0:=fun l h=>by unfold askF;rw[if_neg (by rw[h];simp),if_pos (by decide)]
 have j1:=zv12 ze2 va la 10000 hll hAs
 have j2:=fun vy=>zv12 ze2 vy Y 10000 (by omega) hYs
 have u1:=ze6 ze2 va la 10000 hll hAs
 have u2:=fun vy=>ze6 ze2 vy Y 10000 (by omega) hYs
 rw[ask la hck] at j1 u1
 rw[ask Y hyk,hbk] at j2 u2
 clear hs hfla ha1la ha2la hstB hnst hyk hbk hbla hY
 refine WR ?_
 refine ze rfl (efk (c:=fun _=>zp12 vp vq p q (by omega) (by omega) hPs hQs)) ?_
 rintro _ _ ⟨_,_,_,⟨em,rm,cm1,hem,hrm,-,hcm1,rfl,rfl⟩,hF,hH⟩
 obtain⟨e0,er⟩:=zi10 hck hp hq hall hem hrm
 rw[er] at hF hH hcm1
 rw[e0] at hF
 clear hem hrm er e0 rm
 (refine NST hF hH ?_;clear hF hH;rintro rfl rfl)
 refine WE ?_
 refine WR ?_
 refine ze rfl (efk (c:=fun _=>zp12 vq vp q p (by omega) (by omega) hQs hPs)) ?_
 rintro _ _ ⟨_,_,_,⟨em,rm,cm2,hem,hrm,-,hcm2,rfl,rfl⟩,hF,hH⟩
 obtain⟨e0,er⟩:=zi10 hck hq hp (fun x hx=>(hall x hx).symm) hem hrm
 rw[er] at hF hH hcm2
 rw[e0] at hF
 clear hem hrm er e0 rm
 (refine NST hF hH ?_;clear hF hH;rintro rfl rfl)
 refine WE ?_
 refine zQ4 (wkg (K:=fun F H=>∃v7 v9,F = [(4,.c (.r va (noRs la))),(7,.c (.r v7 (noRs la))),(8,.c (I 0)),(9,.c (.r v9 (noRs la))),(10,.c (I 0))]∧H = []) [] (fun g=>[(4,.c (.r va (noRs la))),(7,.c (.r (g (.o 0 0 la.length cm1)) (noRs la))),(8,.c (I 0)),(9,.c (.r (g (.o 1 0 la.length cm2)) (noRs la))),(10,.c (I 0))]) (fun _=>[]) (fun _=>⟨_,_,rfl,rfl⟩) (hF:=fun _=>.cons rfl (.c rfl) (.cons rfl (.frz rfl rfl (by rw[List.drop_zero,List.take_of_length_le (by simp)]) (by simp) rfl) (.cons rfl (.c rfl) (.cons rfl (.frz rfl rfl (by rw[List.drop_zero,List.take_of_length_le (by simp)]) (by simp) rfl) (.cons rfl (.c rfl) .nil))))) (hl:=ZNL hE)) ?_
 rintro F H ⟨v7,v9,rfl,rfl⟩
 clear hp hq hall hcp hcq hcm1 hcm2 hPs hQs hpl hql
 refine WR ?_
 refine ze rfl (zK2 TabX (hX _ _) false (fun _=>htx) rfl .fn rfl (by decide) (by kernel_rfl) rfl (fun _=>C0 rfl) (by simp)) ?_
 rintro _ _ ⟨_,_,_,⟨rfl,rfl⟩,hF,hH⟩
 (refine NST hF hH ?_;clear hF hH;rintro rfl rfl)
 refine WE ?_
 refine WR ?_
 refine ze rfl (efk (c:=fun _=>hrd)) ?_
 rintro _ _ ⟨_,_,_,⟨⟨vb,rfl⟩,rfl⟩,hF,hH⟩
 (refine NST hF hH ?_;clear hF hH;rintro rfl rfl)
 refine WE ?_
 refine WR ?_
 refine ze rfl (zz true (fun g=>zH12 [0,0,0,0] (g (.o 0 0 4 4)) (by simp)) rfl .fn rfl (by decide) (by kernel_rfl) rfl (fun _=>.cons (.frz rfl rfl rfl rfl rfl) .nil) (fun _ _ _ _ ⟨hu,hH⟩=>by rw[hu,hH];exact⟨.c (.inl trivial),by simp⟩)) ?_
 rintro _ _ ⟨_,_,_,⟨rfl,rfl⟩,hF,hH⟩
 rw[show firstK [0,0,0,0]=0 from rfl] at hF
 (refine NST hF hH ?_;clear hF hH;rintro rfl rfl)
 refine WO ?_
 first|refine ZS ?_|(refine G1 rfl ?_;refine ze rfl (efk (c:=fun _=>zr7 v7 va la la (by omega) (by omega))) ?_;rintro _ _ ⟨_,_,_,⟨rfl,rfl⟩,hF,hH⟩;rw[decide_eq_true rfl] at hF;(refine NST hF hH ?_;clear hF hH;rintro rfl rfl))|skip
 refine WO ?_
 first|refine ZS ?_|(refine G1 rfl ?_;refine ze rfl (efk (c:=fun _=>zr7 v9 va la la (by omega) (by omega))) ?_;rintro _ _ ⟨_,_,_,⟨rfl,rfl⟩,hF,hH⟩;rw[decide_eq_true rfl] at hF;(refine NST hF hH ?_;clear hF hH;rintro rfl rfl))|skip
 refine WO ?_
 first|refine ZS ?_|(refine G1 rfl ?_;refine ze rfl (efk (c:=fun _=>zr7 vb va la la (by omega) (by omega))) ?_;rintro _ _ ⟨_,_,_,⟨rfl,rfl⟩,hF,hH⟩;rw[decide_eq_true rfl] at hF;(refine NST hF hH ?_;clear hF hH;rintro rfl rfl))|skip
 refine WE ?_
 refine za rfl ?_
 refine ZZ ?_
 refine zQ4 (wkg (K:=fun F H=>F = [(4,.c (.r va (noRs la)))]∧H = []) [] (fun g=>[(4,.c (.r va (noRs la)))]) (fun _=>[]) (fun _=>⟨rfl,rfl⟩) (hl:=ZNL hE)) ?_
 rintro F H ⟨rfl,rfl⟩
 clear htx hrd htl
 refine WA ?_
 refine WR ?_
 refine ze rfl (efk (c:=fun _=>zf14 (noRs la) va (okNo la) (by omega))) ?_
 rintro _ _ ⟨_,_,_,⟨c3,hc3,rfl,rfl⟩,hF,hH⟩
 (refine NST hF hH ?_;clear hF hH;rintro rfl rfl)
 refine WO ?_
 refine ze rfl (Zapp (news:=[[T [122],I 1,I 10000,I 4,T [112],T [],T [],I 0,T [],I 0],[T [122],I 2,I 10000,I 7,T [],T [],T [],I 0,T [122],I 1]]) (j:=2) (hE:=KA (t:=38) rfl) (hsrc:=.own rfl rfl rfl) (hj:=rfl) (hle:=by omega)) ?_
 rintro _ _ ⟨_,cc,hcc,rfl,rfl⟩
 refine WE ?_
 rw[hYr]
 refine zQ4 (wkg (K:=fun F H=>∃vy,F = [(4,.c (.r va (noRs la))),(16,.c (I 10000)),(17,.c (.r vy (noRs Y)))]∧H = []) [] (fun g=>[(4,.c (.r va (noRs la))),(16,.c (I 10000)),(17,.c (.r (g (.o 0 0 ((noRs la).length+2) cc)) (noRs Y)))]) (fun _=>[]) (fun _=>⟨_,rfl,rfl⟩) (hF:=fun _=>.cons rfl (.c rfl) (.cons rfl (.c rfl) (.cons rfl (.frz rfl rfl (by rw[List.drop_zero,List.take_of_length_le (by simp;omega)]) (by simp;omega) rfl) .nil))) (hl:=ZNL hE)) ?_
 rintro F H ⟨vy,rfl,rfl⟩
 refine WR ?_
 refine ze rfl (efk (c:=fun _=>j1)) ?_
 rintro _ _ ⟨_,_,_,⟨r1,cr1,hh,hlr1,hcr1,rfl,rfl⟩,hF,hH⟩
 obtain⟨m1,k1,g1,g2,g3⟩:=(hh.resolve_left fun h=>h.1 rfl).2
 clear hh
 (refine NST hF hH ?_;clear hF hH;rintro rfl rfl)
 refine WE ?_
 refine WR ?_
 refine ze rfl (efk (c:=fun _=>j2 vy)) ?_
 rintro _ _ ⟨_,_,_,⟨r2,cr2,hh,hlr2,hcr2,rfl,rfl⟩,hF,hH⟩
 obtain⟨m2,k2,g4,g5,g6⟩:=(hh.resolve_left fun h=>h.1 rfl).2
 clear hh
 (refine NST hF hH ?_;clear hF hH;rintro rfl rfl)
 refine WE ?_
 obtain rfl:r1=r2:=by rw[g3,g6];exact zF17 g1 g2 g4 g5
 refine WR ?_
 refine ze rfl (efk (c:=fun _=>u1)) ?_
 rintro _ _ ⟨_,_,_,⟨r3,cr3,hh,hlr3,hcr3,rfl,rfl⟩,hF,hH⟩
 obtain⟨m3,k3,g7,g8,g9⟩:=(hh.resolve_left fun h=>h.1 rfl).2
 clear hh
 (refine NST hF hH ?_;clear hF hH;rintro rfl rfl)
 refine WE ?_
 refine WR ?_
 refine ze rfl (efk (c:=fun _=>u2 vy)) ?_
 rintro _ _ ⟨_,_,_,⟨r4,cr4,hh,hlr4,hcr4,rfl,rfl⟩,hF,hH⟩
 obtain⟨m4,k4,ga,gb,gc⟩:=(hh.resolve_left fun h=>h.1 rfl).2
 clear hh
 (refine NST hF hH ?_;clear hF hH;rintro rfl rfl)
 refine WE ?_
 obtain rfl:r3=r4:=by rw[g9,gc];exact zF17 g8 (zO9 hJ g7 g8).symm gb (zO9 hJ ga gb).symm
 clear g1 g2 g3 g4 g5 g6 g7 g8 g9 ga gb gc j1 j2 u1 u2
 refine zQ4 (wkg (K:=fun F H=>∃w1 w2 w3 w4,F = [(18,.c (.r w1 (prRs r1))),(19,.c (I 0)),(20,.c (.r w2 (prRs r1))),(21,.c (I 0)),(22,.c (.r w3 (prRs r3))),(23,.c (I 0)),(24,.c (.r w4 (prRs r3))),(25,.c (I 0))]∧H = []) [] (fun g=>[(18,.c (.r (g (.o 0 0 r1.length cr1)) (prRs r1))),(19,.c (I 0)),(20,.c (.r (g (.o 1 0 r1.length cr2)) (prRs r1))),(21,.c (I 0)),(22,.c (.r (g (.o 2 0 r3.length cr3)) (prRs r3))),(23,.c (I 0)),(24,.c (.r (g (.o 3 0 r3.length cr4)) (prRs r3))),(25,.c (I 0))]) (fun _=>[]) (fun _=>⟨_,_,_,_,rfl,rfl⟩) (hF:=fun _=>.cons rfl (.frz rfl rfl (by rw[List.drop_zero,List.take_of_length_le (by simp)]) (by simp) rfl) (.cons rfl (.c rfl) (.cons rfl (.frz rfl rfl (by rw[List.drop_zero,List.take_of_length_le (by simp)]) (by simp) rfl) (.cons rfl (.c rfl) (.cons rfl (.frz rfl rfl (by rw[List.drop_zero,List.take_of_length_le (by simp)]) (by simp) rfl) (.cons rfl (.c rfl) (.cons rfl (.frz rfl rfl (by rw[List.drop_zero,List.take_of_length_le (by simp)]) (by simp) rfl) (.cons rfl (.c rfl) .nil)))))))) (hl:=ZNL hE)) ?_
 rintro F H ⟨w1,w2,w3,w4,rfl,rfl⟩
 refine WR ?_
 refine ze rfl (zz true (fun g=>zH12 [0,0,0,0] (g (.o 0 0 4 4)) (by simp)) rfl .fn rfl (by decide) (by kernel_rfl) rfl (fun _=>.cons (.frz rfl rfl rfl rfl rfl) .nil) (fun _ _ _ _ ⟨hu,hH⟩=>by rw[hu,hH];exact⟨.c (.inl trivial),by simp⟩)) ?_
 rintro _ _ ⟨_,_,_,⟨rfl,rfl⟩,hF,hH⟩
 rw[show firstK [0,0,0,0]=0 from rfl] at hF
 (refine NST hF hH ?_;clear hF hH;rintro rfl rfl)
 refine WO ?_
 first|refine ZS ?_|(refine G1 rfl ?_;refine ze rfl (efk (c:=fun _=>zu10 w1 w2 r1 r1 (by omega) (by omega))) ?_;rintro _ _ ⟨_,_,_,⟨rfl,rfl⟩,hF,hH⟩;rw[decide_eq_true rfl] at hF;(refine NST hF hH ?_;clear hF hH;rintro rfl rfl))|skip
 refine WO ?_
 first|refine ZS ?_|(refine G1 rfl ?_;refine ze rfl (efk (c:=fun _=>zu10 w3 w4 r3 r3 (by omega) (by omega))) ?_;rintro _ _ ⟨_,_,_,⟨rfl,rfl⟩,hF,hH⟩;rw[decide_eq_true rfl] at hF;(refine NST hF hH ?_;clear hF hH;rintro rfl rfl))|skip
 refine WO ?_
 first|refine ZS ?_|(refine G1 rfl ?_;refine ze rfl (efk (c:=fun _=>zs15)) ?_;rintro _ _ ⟨_,_,_,⟨rfl,rfl⟩,hF,hH⟩;(refine NST hF hH ?_;clear hF hH;rintro rfl rfl))|skip
 refine WE ?_
 exact arz (q:=rfl)
end Go.Proofs.YtophoepbedlhjaaGreatDoor
namespace Go.Proofs.YtophoepbedlhjaaGreatDoor
open Go Go.RowKit
set_option maxRecDepth 100000
theorem zR16 {W:World} {r:List (String × DataW Unit)} (h:laidMet Tryz.prog (("internal/strconv.uint64pow10", Lib.tabData .u64 Lib.pow10Tab) :: r) W):TabX.X W [] []:=
 zf15 <| Lib.tabIs_of_head (g:=3) (t:=447) (e:=277) (n:=20) (by kernel_rfl) (by kernel_rfl) (by kernel_rfl) (by kernel_rfl) (by kernel_rfl) (by kernel_rfl) h
end Go.Proofs.YtophoepbedlhjaaGreatDoor
