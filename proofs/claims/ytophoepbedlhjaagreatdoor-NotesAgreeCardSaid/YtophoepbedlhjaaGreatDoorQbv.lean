/- The closed call of the package's own check of its parts: run by the executor. -/
import Derived.Test.YtophoepbedlhjaaGreatDoorQbn
import Derived.Test.YtophoepbedlhjaaGreatDoorQbu
import Derived.Test.YtophoepbedlhjaaGreatDoorQbg
import Derived.Test.YtophoepbedlhjaaGreatDoorQbl
import Derived.Test.YtophoepbedlhjaaGreatDoorQbo
import Derived.Test.YtophoepbedlhjaaGreatDoorQav
import Derived.Test.YtophoepbedlhjaaGreatDoorQbb
import Derived.Test.YtophoepbedlhjaaGreatDoorQbh
import Derived.Test.YtophoepbedlhjaaGreatDoorProg
import Derived.Test.YtophoepbedlhjaaGreatDoorQan
set_option linter.unusedSimpArgs false
set_option linter.unusedVariables false
-- NEWM
namespace Go.Proofs.YtophoepbedlhjaaGreatDoor
open Go Go.RowKit
set_option maxRecDepth 1000000
def rgtF (zs:List Int) (many:Nat):Nat→Int→List Nt × Int
 | 0,a=>([],a)
 | k+1,a=>if chkN (notesF zs a many)=0 then (notesF zs a many,(gensF zs a many).2.a) else rgtF zs many k (gensF zs a many).2.a
theorem zV7 (many:Nat) (hmany:many≤20) (v:Value) (zs:List Int) (a:Int) (hs:StrOk zs) (h0:0≤a) (h1:a≤700000000):ACalls Tryz.prog 34 [.p 0 0 0,.c (I (many:Nat))] [strm v zs a] fun u H=>∃(r:List Nt) (c:Nat) (a':Int),rgtF zs many 8 a=(r,a')∧a≤a'∧a'≤a+3200∧r.length≤many∧chkN r=0∧(∀x∈r,NtB x)∧r.length≤c∧u = .o 1 0 r.length c∧H = [strm v zs a',.arr 37 10 c (noRs r)]:=by
 refine zf (N:=16) Tryz.func34 rfl rfl (by simp) fun E hE=>?_
 refine WA ?_
 refine WA ?_
 refine zq (fun m F H=>∃(k:Nat) (a':Int),m+k=8∧a≤a'∧a'≤a+400*k∧rgtF zs many m a'=rgtF zs many 8 a∧F = [(0,.p 0 0 0),(1,.c (I (many:Nat))),(6,.c (I k))]∧H = [strm v zs a']) ?_ ?_
 ·refine wkg [some 0] (fun _=>[(0,.p 0 0 0),(1,.c (I (many:Nat))),(6,.c (I (0:Nat)))]) (fun _=>[strm v zs a]) (fun _=>?_)
  exact⟨8,0,a,by omega,by omega,by omega,rfl,rfl,rfl⟩
 rintro m F H ⟨k,a',hk,ha1,ha2,hrg,rfl,rfl⟩
 refine WA ?_
 refine zl rfl (fun hlt=>?_) (fun hge=>?_)
 ·obtain⟨m1,rfl⟩:∃m1,m=m1+1:=⟨m - 1,by omega⟩
  rw[rgtF] at hrg
  refine WR ?_
  refine ze rfl (zO [0] (fun _=>[strm v zs a']) false (fun _=>ze11 many (by omega) v zs a' hs (by omega) (by omega)) rfl .fn rfl (by decide) (by kernel_rfl) rfl (fun _g=>.cons (.p rfl) (.cons (.c rfl) .nil)) (by decide) ZCH (by simp)) ?_
  rintro F1 H1 ⟨_,_,_,_,⟨r,c,a2,hf,ha2,h3,h4,hl,hb,hc,rfl,rfl⟩,hF,hH⟩
  (refine NSU hF hH ?_;clear hF hH;rintro rfl rfl)
  refine WE ?_
  rw[←hf,←ha2] at hrg
  refine WR ?_
  refine ze rfl (zz true (fun g=>zc8 (g (.o 1 0 r.length c)) r (by omega) (fun x hx=>(hb x hx).s)) rfl .fn rfl (by decide) (by kernel_rfl) rfl (fun _=>.cons (.frz rfl rfl (by rw[List.drop_zero,List.take_of_length_le (by simp)]) (by simp) rfl) .nil) (fun _ _ _ _ ⟨hu,hH⟩=>by rw[hu,hH];exact⟨.c (.inl trivial),by simp⟩)) ?_
  rintro _ _ ⟨_,_,_,⟨rfl,rfl⟩,hF,hH⟩
  (refine NST hF hH ?_;clear hF hH;rintro rfl rfl)
  refine WE ?_
  generalize hck:chkN r=e at hrg ⊢
  refine zl rfl (fun hp=>?_) (fun hp=>?_)
  ·subst hp
   rw[if_pos rfl] at hrg
   refine WA ?_
   exact zN4 [some 0,some 1] (fun _=>[strm v zs a2,.arr 37 10 c (noRs r)]) rfl rfl rfl rfl rfl (by decide) (ZNK rfl) ZCH (fun _=>⟨r,c,a2,hrg.symm,by omega,by omega,by omega,hck,hb,by omega,rfl,rfl⟩)
  ·rw[if_neg hp] at hrg
   refine WA ?_
   refine wkg [some 0] (fun _=>[(0,.p 0 0 0),(1,.c (I (many:Nat))),(6,.c (I (k+1:Nat)))]) (fun _=>[strm v zs a2]) (fun _=>?_)
   exact⟨m1,by omega,k+1,a2,by omega,by omega,by omega,hrg,rfl,rfl⟩
 obtain rfl:m=0:=by omega
 refine WA ?_
 exact zA (us:=[.c (.r (.slice none 0 0) [])]) [some 0,none] (fun _=>.o 1 0 0 0) (fun _=>[strm v zs a',.arr 37 10 0 []]) (.tmp rfl .nil) (by decide) (ZNK rfl) (fun _=>.nil rfl) ZCH (fun _=>⟨[],0,a',hrg.symm,by omega,by omega,Nat.zero_le _,by decide,by simp,Nat.le_refl _,rfl,rfl⟩)
end Go.Proofs.YtophoepbedlhjaaGreatDoor
namespace Go.Proofs.YtophoepbedlhjaaGreatDoor
open Go Go.RowKit
theorem zW12:∀{a b:List UInt8},cmpB a b < 0↔a < b
 | [],[]=>by simp[cmpB]
 | [],b :: bl=>by simp[cmpB]
 | a :: al,[]=>by simp[cmpB]
 | a :: al,b :: bl=>by
  rw[List.cons_lt_cons_iff,←zW12 (a:=al) (b:=bl)]
  simp only[cmpB]
  by_cases h1:a=b
  ·subst h1
   simp[UInt8.lt_irrefl]
  ·by_cases h2:a < b
   ·simp[h1,h2]
   ·simp[h1,h2]
theorem zj12 {l:List (Nat × List UInt8 × List UInt8)} (hn:(l.map (·.2.1)).Nodup):(l.map (·.2.1)).map (valP l)=l.map (·.2):=by
 rw[List.map_map]
 refine List.map_congr_left fun e he=>?_
 show valP l e.2.1=e.2
 unfold valP
 rw[zo2 hn he]
 rfl
theorem ze5 {l:List (Nat × List UInt8 × List UInt8)} (hn:(l.map (·.2.1)).Nodup):(srtP l).Perm (l.map (·.2)):=by
 rw[←zj12 hn]
 exact(List.mergeSort_perm _ _).map _
theorem zL9 (l:List (Nat × List UInt8 × List UInt8)):(srtP l).Pairwise fun a b=>¬cmpB b.1 a.1 < 0:=by
 have tr:∀a b c:List UInt8,decide (a≤b)=true→decide (b≤c)=true→decide (a≤c)=true:=fun a b c h1 h2=>by simp only[decide_eq_true_eq] at *;exact List.le_trans h1 h2
 have to:∀a b:List UInt8,(decide (a≤b) || decide (b≤a))=true:=fun a b=>by simp only[Bool.or_eq_true,decide_eq_true_eq];exact List.le_total a b
 have h:=List.pairwise_mergeSort (le:=fun x y:List UInt8=>decide (x≤y)) tr to (l.map (·.2.1))
 unfold srtP srtK
 rw[List.pairwise_map]
 refine h.imp fun {a b} hab=>?_
 simp only[decide_eq_true_eq] at hab
 show ¬cmpB b a < 0
 rw[zW12]
 exact List.not_lt.2 hab
theorem zI11 {l:List (Nat × List UInt8 × List UInt8)} {ck:Nat} (hm:MapOk l ck) {l2:List Pr} (hp:l2.Perm (l.map (·.2))) (hs:l2.Pairwise fun a b=>¬cmpB b.1 a.1 < 0):srtP l=l2:=by
 have hp2:=(ze5 hm.nk).trans hp.symm
 refine List.Perm.eq_of_pairwise (le:=fun a b:Pr=>¬cmpB b.1 a.1 < 0) (fun a b ha hb h1 h2=>?_) (zL9 l) hs hp2
 have hn:=zy7 (a:=a.1) (b:=b.1)
 have he:a.1=b.1:=cmpB_eq.1 (by omega)
 have h3:=(ze5 hm.nk).subset ha
 have h4:=hp.subset hb
 obtain⟨e,g1,rfl⟩:=List.mem_map.1 h3
 obtain⟨f,g2,rfl⟩:=List.mem_map.1 h4
 have m1:=zo2 hm.nk g1
 have m2:=zo2 hm.nk g2
 have he':e.2.1=f.2.1:=he
 rw[he',m2] at m1
 injection m1 with m1
 exact Prod.ext he' m1.symm
theorem zO9 {js:List Jb} {rl:List (Nat × List UInt8 × List UInt8)} {rk:Nat} (hJ:JsOk js) (h:RunOk js rl) (hm:MapOk rl rk):(js.filterMap rnPr).Perm (rl.map (·.2)):=by
 have n1:(js.filterMap rnPr).Nodup:=by
  refine List.pairwise_filterMap.2 (List.pairwise_iff_getElem.2 fun i k hi hk hik p hp q hq e=>?_)
  subst e
  unfold rnPr at hp hq
  split at hp
  ·rename_i s1
   split at hq
   ·rename_i s2
    simp only[Option.some.injEq] at hp hq
    rw[←hq] at hp
    have:=hJ.pr i k _ _ (List.getElem?_eq_getElem hi) (List.getElem?_eq_getElem hk) (congrArg Prod.fst hp) s1 s2
    omega
   ·cases hq
  ·cases hp
 have n2:(rl.map (·.2)).Nodup:=by
  have h1:rl.Pairwise fun a b=>a.2.1≠b.2.1:=List.pairwise_map.1 hm.nk
  exact List.pairwise_map.2 (h1.imp fun {a b} hne e=>hne (congrArg Prod.fst e))
 refine(List.perm_ext_iff_of_nodup n1 n2).2 fun p=>⟨fun hp=>?_,fun hp=>?_⟩
 ·obtain⟨j,hj,hp⟩:=List.mem_filterMap.1 hp
  unfold rnPr at hp
  split at hp
  ·rename_i s1
   simp only[Option.some.injEq] at hp
   obtain⟨k,hk⟩:=List.mem_iff_getElem?.1 hj
   have h1:=h j.pr
   rw[zo15 hJ hk s1] at h1
   simp only[Option.bind_some] at h1
   rw[hk] at h1
   obtain⟨i,hi⟩:=zh10 h1
   exact List.mem_map.2 ⟨_,hi,hp⟩
  ·cases hp
 ·obtain⟨e,he,rfl⟩:=List.mem_map.1 hp
  obtain⟨k,j,g1,g2,g3,g4,g5⟩:=h.key hm he
  exact List.mem_filterMap.2 ⟨j,List.mem_of_getElem? g2,by unfold rnPr;rw[if_pos g4,g3,g5]⟩
end Go.Proofs.YtophoepbedlhjaaGreatDoor
-- NEWM
namespace Go.Proofs.YtophoepbedlhjaaGreatDoor
open Go Go.RowKit
set_option maxRecDepth 100000
theorem zH14 {l:List Nt} (hl:∀x∈l,ntF x=0) (ix:List Int):∀k,BkOk (bkK l ix k).1 k
 | 0=>.zero
 | k+1=>by
  have h:=zH14 hl ix k
  rw[bkK]
  split
  ·split
   ·rename_i x hx
    unfold bkStep
    split
    ·exact h.more
    ·rename_i hr
     exact h.next (hl x (List.mem_of_getElem? hx)) (Decidable.not_not.1 hr)
   ·exact h.more
  ·exact h.more
theorem BkOk.le {b:Bk} {k n:Nat} (h:BkOk b k) (hk:k≤n):BkOk b n:=⟨h.js,h.sp,h.lf,h.us,h.l,fun s=>⟨(h.u s).1,by have:=(h.u s).2;omega⟩⟩
theorem zc14 (at_:Int) (l:List Nt):(cntP at_ l).length≤l.length:=by
 have:=zN3 at_ l l.length (Nat.le_refl _)
 unfold cntP
 rw[List.length_reverse]
 omega
theorem zy16 {l:List Nt} (at_:Int) (h:chkN l=0):BkOk (bksF l (cntP at_ l)).1 2000:=by
 obtain⟨h1,h2⟩:=zg2 h
 have:=zc14 at_ l
 exact(zH14 h2 _ _).le (by omega)
end Go.Proofs.YtophoepbedlhjaaGreatDoor
namespace Go.Proofs.YtophoepbedlhjaaGreatDoor
open Go Go.RowKit
theorem zy17 {l:List Nt} (h:(l.map ky).Nodup) {x y:Nt} (hx:x∈l) (hy:y∈l) (e:ky x=ky y):x=y:=by
 induction l with
 | nil=>cases hx
 | cons z l ih=>
  rw[List.map_cons,List.nodup_cons] at h
  rcases List.mem_cons.1 hx with e1|hx2 <;> rcases List.mem_cons.1 hy with e2|hy2
  ·exact e1.trans e2.symm
  ·exact absurd (List.mem_map.2 ⟨y,hy2,by rw[←e,e1]⟩) h.1
  ·exact absurd (List.mem_map.2 ⟨x,hx2,by rw[e,e2]⟩) h.1
  ·exact ih h.2 hx2 hy2
theorem za9 {X:List Nt} (hX:(X.map ky).Nodup):∀(q out:List Nt),(∀z∈out,z∈X)→(∀z∈q,z∈X)→∃r,mrg out q=some r∧∀z,z∈r↔z∈out∨z∈q
 | [],out,_,_=>⟨out,rfl,fun z=>by simp⟩
 | x :: q,out,ho,hq=>by
  by_cases h1:fndN out x=none
  ·rw[zh7 h1]
   obtain⟨r,h2,h3⟩:=za9 hX q (out++[x]) (fun z hz=>by
    rcases List.mem_append.1 hz with hz|hz
    ·exact ho z hz
    ·rw[List.mem_singleton] at hz;subst hz;exact hq _ List.mem_cons_self) fun z hz=>hq z (List.mem_cons_of_mem _ hz)
   exact⟨r,h2,fun z=>by rw[h3];simp[or_assoc]⟩
  ·obtain⟨o,h2⟩:=Option.ne_none_iff_exists'.1 h1
   have h3:o∈out:=List.mem_of_find?_eq_some h2
   have h4:snB o x=true:=List.find?_some (p:=fun o=>snB o x) h2
   have h5:o=x:=zy17 hX (ho o h3) (hq x List.mem_cons_self) (snB_ky.1 h4)
   subst h5
   rw[zb9 h2]
   obtain⟨r,h6,h7⟩:=za9 hX q out ho fun z hz=>hq z (List.mem_cons_of_mem _ hz)
   refine⟨r,h6,fun z=>?_⟩
   rw[h7,List.mem_cons]
   constructor
   ·rintro(h|h)
    ·exact .inl h
    ·exact .inr (.inr h)
   ·rintro(h|rfl|h)
    ·exact .inl h
    ·exact .inl h3
    ·exact .inr h
theorem zr17 {l:List Nt} (h:l.Pairwise fun x y=>cmpNt x y < 0):l.Pairwise fun x y=>¬cmpNt y x < 0:=
 h.imp fun {a b} h1=>by have:=zo3 a b;omega
theorem zi10 {X p q r:List Nt} {e:Int} (hX:chkN X=0) (hp:p.Sublist X) (hq:q.Sublist X) (hall:∀x∈X,x∈p∨x∈q) (he:e=mgE p q) (h1:e=0→∃out,mrg p q=some out∧r.Perm out∧r.Pairwise fun x y=>¬cmpNt y x < 0):e=0∧r=X:=by
 obtain⟨x1,x2,x3,x4⟩:=chkN_pw.1 hX
 obtain⟨out,m1,m2⟩:=za9 x4 q p (fun z hz=>hp.subset hz) fun z hz=>hq.subset hz
 have hpn:=(chkN_pw.1 (zz7 hX hp)).2.2.2
 have m3:=zz5 q p out hpn m1
 have m4:out.Nodup:=zg3 m3
 have m5:X.Nodup:=zg3 x4
 have m6:out.Perm X:=(List.perm_ext_iff_of_nodup m4 m5).2 fun z=>by
  rw[m2]
  exact⟨fun h=>h.elim (fun h=>hp.subset h) fun h=>hq.subset h,fun h=>hall z h⟩
 have h0:e=0:=by
  rw[he,mgE,if_neg (by rw[zz7 hX hp];simp),if_neg (by rw[zz7 hX hq];simp),m1,mrE,if_neg (by rw[m6.length_eq];omega)]
 refine⟨h0, ?_⟩
 obtain⟨o2,m7,m8,m9⟩:=h1 h0
 rw[m1] at m7
 obtain rfl:=Option.some.inj m7
 have hk:(r.map ky).Nodup:=(m8.map ky).nodup_iff.2 m3
 exact zL11 (m8.trans m6) hk m9 (zr17 x3)
def nfZ:Nt:=⟨[122],1,10000,4,[112],[],[],0,[],0⟩
def nuZ:Nt:=⟨[122],2,10000,7,[],[],[],0,[122],1⟩
theorem zd6 {zs:List Int} {a:Int} {vals:List (List UInt8)} (h:vals≠[]) (hl:vals.length≤1000):someF zs a vals∈vals:=by
 have hp:0 < vals.length:=List.length_pos_iff.2 h
 have:=zg7 (zs:=zs) (a:=a) (n:=vals.length) (by omega) (by omega)
 unfold someF
 rw[List.getD_eq_getElem?_getD,List.getElem?_eq_getElem (by omega)]
 exact List.getElem_mem _
def stB (x:Nt):Prop:=(x.st = []∨x.st = [97]∨x.st = [98])∧(x.at_≤9000∨345686399999 < x.at_)
theorem zT15 {zs:List Int} {x:Nt} {ly:List UInt8→Int} {a:Int} (h:stB x):stB (kindF zs x ly a).1:=by
 unfold kindF
 split
 ·exact h
 split
 ·split <;> exact h
 split
 ·exact h
 split
 ·exact h
 split <;> exact h
theorem zs17 {zs:List Int} {x:Nt} {a:Int} (h:stB x):stB (oddNF zs x a).1:=by
 unfold oddNF
 split
 ·split
  ·refine⟨?_, ?_⟩
   ·have:=zd6 (zs:=zs) (a:=a+1+1) (vals:=[[],x.st]) (by simp) (by simp)
    simp only[List.mem_cons,List.not_mem_nil,or_false] at this
    rcases this with h1|h1
    ·exact .inl h1
    ·simp only
     rw[h1]
     exact h.1
   ·simp only
    generalize (oddF zs (a+1+1+1) 1 9).2=b
    unfold oddF
    split
    ·have:=@zp5 zs (b+1) [0 - 1,60+1,0,60,-1099511627776,1099511627776] (by simp) (by simp)
     simp only[List.mem_cons,List.not_mem_nil,or_false] at this
     (try simp only)
     omega
    ·have:=@za8 zs (b+1) 0 60 (by omega) (by omega)
     (try simp only)
     omega
  split
  ·exact h
  split
  ·exact h
  ·exact h
 ·exact h
theorem zC12 (zs:List Int) (a:Int):∀k,(0≤(gensF zs a k).2.at_∧(gensF zs a k).2.at_≤10*k)∧(k≤20→∀x∈(gensF zs a k).1,stB x)
 | 0=>⟨⟨Int.le_refl _,Int.le_refl _⟩,fun _ x h=>by cases h⟩
 | k+1=>by
  obtain⟨h1,h2⟩:=zC12 zs a k
  have hp:=@zp5 zs (gensF zs a k).2.a [0,1,1,3,10] (by simp) (by simp)
  simp only[List.mem_cons,List.not_mem_nil,or_false] at hp
  refine⟨?_,fun hk x h=>?_⟩
  ·rw[gensF]
   simp only[noteF]
   omega
  ·rw[gensF] at h
   rcases List.mem_append.1 h with h|h
   ·exact h2 (by omega) x h
   ·rw[List.mem_singleton] at h
    subst h
    unfold noteF
    refine zs17 (zT15 ⟨?_, ?_⟩)
    ·have:=zd6 (zs:=zs) (a:=(gensF zs a k).2.a+1) (vals:=[[97],[97],[98]]) (by simp) (by simp)
     simp only[List.mem_cons,List.not_mem_nil,or_false] at this
     simp only[firstF]
     rcases this with h|h|h
     ·exact .inr (.inl h)
     ·exact .inr (.inl h)
     ·exact .inr (.inr h)
    ·simp only[firstF]
     omega
theorem zs14 {zs:List Int} {many:Nat} (hm:many≤20):∀(k:Nat) (a:Int),∀x∈(rgtF zs many k a).1,stB x
 | 0,a,x,h=>by cases h
 | k+1,a,x,h=>by
  rw[rgtF] at h
  split at h
  ·exact(zC12 zs a many).2 hm x (zr10 _ _ h)
  ·exact zs14 hm k _ x h
theorem za15 {X:List Nt} (hX:chkN X=0) (hl:X.length≤1000) (hs:∀x∈X,stB x):chkN (X++[nfZ,nuZ])=0:=by
 obtain⟨x1,x2,x3,x4⟩:=chkN_pw.1 hX
 have hat:∀x∈X,x.at_≤9000∧x.st≠[122]:=fun x hx=>by
  obtain⟨h1,h2⟩:=hs x hx
  have:=(zS2 (x2 x hx)).2.2.1
  refine⟨by omega,fun e=>?_⟩
  rw[e] at h1
  revert h1
  decide
 refine chkN_pw.2 ⟨by simp;omega,fun x hx=>?_,List.pairwise_append.2 ⟨x3, ?_,fun x hx y hy=>?_⟩, ?_⟩
 ·rcases List.mem_append.1 hx with hx|hx
  ·exact x2 x hx
  ·simp only[List.mem_cons,List.not_mem_nil,or_false] at hx
   rcases hx with rfl|rfl <;> decide
 ·rw[List.pairwise_cons]
  exact⟨fun y hy=>by rw[List.mem_singleton] at hy;subst hy;decide,by simp⟩
 ·have:=(hat x hx).1
  rw[zY4]
  simp only[List.mem_cons,List.not_mem_nil,or_false] at hy
  rcases hy with rfl|rfl
  ·left;show x.at_ < 10000;omega
  ·left;show x.at_ < 10000;omega
 ·rw[List.map_append,List.nodup_append]
  refine⟨x4,by decide,fun a ha b hb e=>?_⟩
  obtain⟨x,hx,rfl⟩:=List.mem_map.1 ha
  have h1:=(hat x hx).2
  simp only[List.map_cons,List.map_nil,List.mem_cons,List.not_mem_nil,or_false] at hb
  rcases hb with rfl|rfl
  ·injection e with e;exact h1 e
  ·injection e with e;exact h1 e
theorem zx8 {at_:Int} {k0:List UInt8 × Int} {i0:Int}:∀(l:List (Nat × Nt)) (s:List (List UInt8 × Int) × List Int),(∀e∈l,ky e.2≠k0)→l.foldl (cstp at_) (k0 :: s.1,i0 :: s.2)=(k0 :: (l.foldl (cstp at_) s).1,i0 :: (l.foldl (cstp at_) s).2)
 | [],s,_=>rfl
 | e :: l,s,h=>by
  have h0:=h e List.mem_cons_self
  rw[List.foldl_cons,List.foldl_cons,←zx8 l _ fun x hx=>h x (List.mem_cons_of_mem _ hx)]
  congr 1
  unfold cstp
  by_cases h1:at_ < e.2.at_∨ky e.2∈s.1
  ·rw[if_pos h1,if_pos (h1.imp id fun h=>List.mem_cons_of_mem _ h)]
  ·rw[if_neg h1,if_neg fun h=>h1 (h.imp id fun h=>(List.mem_cons.1 h).resolve_left h0)]
   split <;> rfl
theorem zq16 (X:List Nt) (f u:Nt):bwd (X++[f,u])=(X.length+1,u) :: (X.length,f) :: bwd X:=by
 unfold bwd
 have e:(X++[f,u]).length=X.length+1+1:=by simp
 rw[e,List.range_succ_eq_map,List.range_succ_eq_map,List.map_cons,List.map_map,List.map_cons,List.map_map]
 have e2:∀k,(X++[f,u])[X.length+k]? = [f,u][k]?:=fun k=>by rw[List.getElem?_append_right (by omega)];congr 1;omega
 refine List.cons_eq_cons.2 ⟨?_,List.cons_eq_cons.2 ⟨?_,List.map_congr_left fun k hk=>?_⟩⟩
 ·rw[show X.length+1+1 - 1 - 0=X.length+1 by omega,e2 1]
  rfl
 ·show (X.length+1+1 - 1 - 1,((X++[f,u])[X.length+1+1 - 1 - 1]?).getD zN)=_
  rw[show X.length+1+1 - 1 - 1=X.length+0 by omega,e2 0]
  rfl
 ·have hk:=List.mem_range.1 hk
  show (X.length+1+1 - 1 - (k+1+1),((X++[f,u])[X.length+1+1 - 1 - (k+1+1)]?).getD zN)=_
  rw[show X.length+1+1 - 1 - (k+1+1)=X.length - 1 - k by omega,List.getElem?_append_left (by omega)]
theorem zm16 {X:List Nt} (hs:∀x∈X,x.st≠[122]):cntP 10000 (X++[nfZ,nuZ])=cntP 10000 X++[((X.length+1:Nat):Int)]:=by
 unfold cntP cst
 rw[←zQ3 (X++[nfZ,nuZ]),←zQ3 X,List.take_length,List.take_length,zq16,List.foldl_cons,List.foldl_cons,zQ3]
 have e1:cstp 10000 ([],[]) (X.length+1,nuZ)=([([122],1)],[((X.length+1:Nat):Int)]):=by
  unfold cstp
  rw[if_neg (by simp[nuZ])]
  rfl
 have e2:cstp 10000 ([([122],1)],[((X.length+1:Nat):Int)]) (X.length,nfZ)=([([122],1)],[((X.length+1:Nat):Int)]):=by
  unfold cstp
  rw[if_pos (.inr (by simp[nfZ]))]
 rw[e1,e2]
 have h:=zx8 (at_:=10000) (k0:=([122],1)) (i0:=((X.length+1:Nat):Int)) (bwd X) ([],[]) fun e he=>by
  obtain⟨k,hk,rfl⟩:=List.mem_map.1 he
  have hk:=List.mem_range.1 hk
  intro h3
  rw[List.getElem?_eq_getElem (by omega)] at h3
  injection h3 with h3
  exact hs _ (List.getElem_mem _) h3
 rw[h]
 simp
theorem zg13 {X Y:List Nt} {c d:List Int} (hc:∀i∈c,i.toNat < X.length):∀k,k≤c.length→bkK (X++Y) (c++d) k=bkK X c k
 | 0,_=>rfl
 | k+1,hk=>by
  have h1:=zg13 (Y:=Y) (d:=d) hc k (by omega)
  have h2:c[k]?=some (c[k]'(by omega)):=List.getElem?_eq_getElem (by omega)
  have h3:=hc _ (List.getElem_mem (show k < c.length by omega))
  rw[bkK,bkK,List.getElem?_append_left (by omega),h2]
  simp only
  rw[List.getElem?_append_left h3,h1]
theorem zw16 {X:List Nt} (hX:chkN X=0) (hs:∀x∈X,x.st≠[122]):(bksF (X++[nfZ,nuZ]) (cntP 10000 (X++[nfZ,nuZ]))).1=(bksF X (cntP 10000 X)).1:=by
 rw[zm16 hs]
 unfold bksF
 have hc:∀i∈cntP 10000 X,i.toNat < X.length:=fun i hi=>by
  obtain⟨k,rfl,hk⟩:=zS12 hX i hi
  simpa using hk
 rw[List.length_append,List.length_singleton,bkK]
 rw[List.getElem?_append_right (Nat.le_refl _),Nat.sub_self,List.getElem?_cons_zero]
 simp only
 rw[Int.toNat_natCast,List.getElem?_append_right (by omega),show X.length+1 - X.length=1 by omega]
 simp only[List.getElem?_cons_succ,List.getElem?_cons_zero]
 rw[zg13 hc _ (Nat.le_refl _)]
 unfold bkStep
 split
 ·rfl
 ·simp[ntS,nuZ]
theorem zO16 {X:List Nt} (hX:chkN X=0) (hs:∀x∈X,stB x):∀x∈X,x.st≠[122]:=fun x hx e=>by
 have h1:=(hs x hx).1
 rw[e] at h1
 revert h1
 decide
end Go.Proofs.YtophoepbedlhjaaGreatDoor
-- NEWM
namespace Go.Proofs.YtophoepbedlhjaaGreatDoor
open Go Go.RowKit
set_option maxRecDepth 1000000
theorem zG15 (v vx:Value) (zs:List Int) (a:Int) (l:List Nt) (hs:StrOk zs) (h0:0≤a) (h1:a≤700000000) (hl:l.length≤1000):ACalls Tryz.prog 35 [.p 0 0 0,.c (.r vx (noRs l))] [strm v zs a] fun u H=>∃(p q:List Nt) (cp cq:Nat) (a':Int),p.Sublist l∧q.Sublist l∧(∀x∈l,x∈p∨x∈q)∧p.length≤cp∧q.length≤cq∧u = .t [.o 1 0 p.length cp,.o 2 0 q.length cq]∧H = [strm v zs a',.arr 37 10 cp (noRs p),.arr 37 10 cq (noRs q)]:=by
 have e1:(noRs l).length=l.length:=by simp
 refine zf (N:=41) Tryz.func35 rfl rfl (by simp) fun E hE=>?_
 refine WA ?_
 refine WA ?_
 refine WA ?_
 refine zq (fun m F H=>∃(k:Nat) (p q:List Nt) (cp cq:Nat) (a':Int),m+k=l.length∧a'=a+k∧p.Sublist (l.take k)∧q.Sublist (l.take k)∧(∀x∈l.take k,x∈p∨x∈q)∧p.length≤cp∧q.length≤cq∧F = [(0,.p 0 0 0),(6,.o 1 0 p.length cp),(7,.o 2 0 q.length cq),(10,.c (.r vx (noRs l))),(11,.c (I (noRs l).length)),(12,.c (I k))]∧H = [strm v zs a',.arr 37 10 cp (noRs p),.arr 37 10 cq (noRs q)]) ?_ ?_
 ·refine wkg [some 0,none,none] (fun _=>[(0,.p 0 0 0),(6,.o 1 0 0 0),(7,.o 2 0 0 0),(10,.c (.r vx (noRs l))),(11,.c (I (noRs l).length)),(12,.c (I (0:Nat)))]) (fun _=>[strm v zs a,.arr 37 10 0 [],.arr 37 10 0 []]) (fun _=>?_)
  exact⟨l.length,0,[],[],0,0,a,by omega,by omega,by simp,by simp,by simp,by simp,by simp,rfl,rfl⟩
 rintro m F H ⟨k,p,q,cp,cq,a',hk,ha',hp,hq,hall,hcp,hcq,rfl,rfl⟩
 have hpl:p.length≤k:=Nat.le_trans hp.length_le (by simp;omega)
 have hql:q.length≤k:=Nat.le_trans hq.length_le (by simp;omega)
 have e2:(noRs p).length=p.length:=by simp
 have e3:(noRs q).length=q.length:=by simp
 refine WA ?_
 refine zl rfl (fun hlt=>?_) (fun hge=>?_)
 ·obtain⟨x,hx⟩:∃n,l[k]?=some n:=⟨_,List.getElem?_eq_getElem (by omega)⟩
  have hrow0:=zC1 hx
  have htk:l.take (k+1)=l.take k++[x]:=by rw[List.take_add_one,hx];rfl
  have hm:∀P:List Nt→Prop,P (l.take k++[x])→P (l.take (k+1)):=fun P h=>by rw[htk];exact h
  obtain⟨st,no,at_,kn,pr,jb,sp,n,of_,ot⟩:=x
  have hrow:(noRs l)[k]?=some [T st,I no,I at_,I kn,T pr,T jb,T sp,I n,T of_,I ot]:=hrow0
  refine WA ?_
  refine WR ?_
  refine ze rfl (efm (c:=fun _=>zw17 3 _ _ _ hs (by omega) (by omega) (by simp only[in64];omega))) ?_
  rintro F1 H1 ⟨_,_,_,_,⟨r,rfl,hq,hr1,hr2⟩,hF,hH⟩
  cases hq
  (refine NST hF hH ?_;clear hF hH;rintro rfl rfl)
  refine WE ?_
  refine WA ?_
  refine zl rfl (fun hr0=>?_) (fun hr0=>?_)
  ·refine WR ?_
   refine ze rfl (Zapp (news:=[[T st,I no,I at_,I kn,T pr,T jb,T sp,I n,T of_,I ot]]) (j:=1) (hE:=KA (t:=38) rfl) (hsrc:=.own rfl rfl rfl) (hj:=rfl) (hle:=by omega)) ?_
   rintro _ _ ⟨_,c1,hc1,rfl,rfl⟩
   refine WE ?_
   refine WA ?_
   refine wkg [some 0,some 1,some 2] (fun _=>[(0,.p 0 0 0),(6,.o 1 0 (p.length+1) c1),(7,.o 2 0 q.length cq),(10,.c (.r vx (noRs l))),(11,.c (I (noRs l).length)),(12,.c (I (k+1:Nat)))]) (fun _=>[strm v zs (a'+1),.arr 37 10 c1 (noRs p++[[T st,I no,I at_,I kn,T pr,T jb,T sp,I n,T of_,I ot]]),.arr 37 10 cq (noRs q)]) (fun _=>?_)
   refine⟨m - 1,by omega,k+1,p++[⟨st,no,at_,kn,pr,jb,sp,n,of_,ot⟩],q,c1,cq,a'+1,by omega,by omega,hm _ (hp.append_right _),hm _ (hq.trans (List.sublist_append_left _ _)), ?_,by simp;omega,hcq,by simp,by simp[noR]⟩
   intro y hy
   rw[htk] at hy
   rcases List.mem_append.1 hy with hy|hy
   ·exact(hall y hy).imp (fun h=>List.mem_append_left _ h) id
   ·exact .inl (List.mem_append_right _ hy)
  ·refine WA ?_
   refine zl rfl (fun hr0=>?_) (fun hr0=>?_)
   ·refine WR ?_
    refine ze rfl (Zapp (news:=[[T st,I no,I at_,I kn,T pr,T jb,T sp,I n,T of_,I ot]]) (j:=1) (hE:=KA (t:=38) rfl) (hsrc:=.own rfl rfl rfl) (hj:=rfl) (hle:=by omega)) ?_
    rintro _ _ ⟨_,c1,hc1,rfl,rfl⟩
    refine WE ?_
    refine WA ?_
    refine wkg [some 0,some 1,some 2] (fun _=>[(0,.p 0 0 0),(6,.o 1 0 p.length cp),(7,.o 2 0 (q.length+1) c1),(10,.c (.r vx (noRs l))),(11,.c (I (noRs l).length)),(12,.c (I (k+1:Nat)))]) (fun _=>[strm v zs (a'+1),.arr 37 10 cp (noRs p),.arr 37 10 c1 (noRs q++[[T st,I no,I at_,I kn,T pr,T jb,T sp,I n,T of_,I ot]])]) (fun _=>?_)
    refine⟨m - 1,by omega,k+1,p,q++[⟨st,no,at_,kn,pr,jb,sp,n,of_,ot⟩],cp,c1,a'+1,by omega,by omega,hm _ (hp.trans (List.sublist_append_left _ _)),hm _ (hq.append_right _), ?_,hcp,by simp;omega,by simp,by simp[noR]⟩
    intro y hy
    rw[htk] at hy
    rcases List.mem_append.1 hy with hy|hy
    ·exact(hall y hy).imp id (fun h=>List.mem_append_left _ h)
    ·exact .inr (List.mem_append_right _ hy)
   ·refine ZZ ?_
    refine ZZ ?_
    refine zz3 [[(0,none),(1,none),(4,none),(5,none),(2,some [0,4,5]),(3,some [4,5]),(6,some [0,1,4]),(7,some []),(8,none),(9,none)],[(0,none),(1,none),(4,none),(5,none),(2,some [0,4,5]),(6,some [0,1,4]),(3,some [4,5]),(7,some []),(8,none),(9,none)],[(0,none),(1,none),(4,none),(5,none),(6,some [0,1,4]),(2,some [0,4,5]),(3,some [4,5]),(7,some []),(8,none),(9,none)]] zn (by kernel_rfl) ?_
    focus
     refine WM ?_
     refine zp2 (by rfl) (by rfl) (by rfl) ?_ ?_
     rotate_left
     refine WM ?_
     refine zV (i:=3) (by rfl) (by rfl) rfl rfl (Zapp (news:=[[T st,I no,I at_,I kn,T pr,T jb,T sp,I n,T of_,I ot]]) (j:=1) (hE:=KA (t:=38) rfl) (hsrc:=.own rfl rfl rfl) (hj:=rfl) (hle:=by omega)) ?_
     rintro _ _ ⟨_,c1,hc1,rfl,rfl⟩
     refine⟨AGX, ?_⟩
     refine zV (i:=7) (by rfl) (by rfl) rfl rfl (Zapp (news:=[[T st,I no,I at_,I kn,T pr,T jb,T sp,I n,T of_,I ot]]) (j:=1) (hE:=KA (t:=38) rfl) (hsrc:=.own rfl rfl rfl) (hj:=rfl) (hle:=by omega)) ?_
     rintro _ _ ⟨_,c2,hc2,rfl,rfl⟩
     refine⟨AGX, ?_⟩
     refine WN ?_
     rotate_right
     refine WM ?_
     refine zp2 (by rfl) (by rfl) (by rfl) ?_ ?_
     rotate_left
     refine WM ?_
     refine zV (i:=3) (by rfl) (by rfl) rfl rfl (Zapp (news:=[[T st,I no,I at_,I kn,T pr,T jb,T sp,I n,T of_,I ot]]) (j:=1) (hE:=KA (t:=38) rfl) (hsrc:=.own rfl rfl rfl) (hj:=rfl) (hle:=by omega)) ?_
     rintro _ _ ⟨_,c1,hc1,rfl,rfl⟩
     refine⟨AGX, ?_⟩
     refine zV (i:=7) (by rfl) (by rfl) rfl rfl (Zapp (news:=[[T st,I no,I at_,I kn,T pr,T jb,T sp,I n,T of_,I ot]]) (j:=1) (hE:=KA (t:=38) rfl) (hsrc:=.own rfl rfl rfl) (hj:=rfl) (hle:=by omega)) ?_
     rintro _ _ ⟨_,c2,hc2,rfl,rfl⟩
     refine⟨AGX, ?_⟩
     refine WN ?_
     rotate_right
     refine zV (i:=3) (by rfl) (by rfl) rfl rfl (Zapp (news:=[[T st,I no,I at_,I kn,T pr,T jb,T sp,I n,T of_,I ot]]) (j:=1) (hE:=KA (t:=38) rfl) (hsrc:=.own rfl rfl rfl) (hj:=rfl) (hle:=by omega)) ?_
     rintro _ _ ⟨_,c1,hc1,rfl,rfl⟩
     refine⟨AGX, ?_⟩
     refine WM ?_
     refine zV (i:=7) (by rfl) (by rfl) rfl rfl (Zapp (news:=[[T st,I no,I at_,I kn,T pr,T jb,T sp,I n,T of_,I ot]]) (j:=1) (hE:=KA (t:=38) rfl) (hsrc:=.own rfl rfl rfl) (hj:=rfl) (hle:=by omega)) ?_
     rintro _ _ ⟨_,c2,hc2,rfl,rfl⟩
     refine⟨AGX, ?_⟩
     refine WN ?_
    all_goals (
     refine WA ?_
     refine wkg [some 0,some 1,some 2] (fun _=>[(0,.p 0 0 0),(6,.o 1 0 (p.length+1) c1),(7,.o 2 0 (q.length+1) c2),(10,.c (.r vx (noRs l))),(11,.c (I (noRs l).length)),(12,.c (I (k+1:Nat)))]) (fun _=>[strm v zs (a'+1),.arr 37 10 c1 (noRs p++[[T st,I no,I at_,I kn,T pr,T jb,T sp,I n,T of_,I ot]]),.arr 37 10 c2 (noRs q++[[T st,I no,I at_,I kn,T pr,T jb,T sp,I n,T of_,I ot]])]) (fun _=>?_)
     refine⟨m - 1,by omega,k+1,p++[⟨st,no,at_,kn,pr,jb,sp,n,of_,ot⟩],q++[⟨st,no,at_,kn,pr,jb,sp,n,of_,ot⟩],c1,c2,a'+1,by omega,by omega,hm _ (hp.append_right _),hm _ (hq.append_right _), ?_,by simp;omega,by simp;omega,by simp,by simp[noR]⟩
     intro y hy
     rw[htk] at hy
     rcases List.mem_append.1 hy with hy|hy
     ·exact(hall y hy).imp (fun h=>List.mem_append_left _ h) (fun h=>List.mem_append_left _ h)
     ·exact .inl (List.mem_append_right _ hy))
 have hfull:l.take k=l:=List.take_of_length_le (by omega)
 rw[hfull] at hp hq hall
 refine WA ?_
 exact zA (us:=[.o 1 0 p.length cp,.o 2 0 q.length cq]) [some 0,some 1,some 2] (fun _=>.t [.o 1 0 p.length cp,.o 2 0 q.length cq]) (fun _=>[strm v zs a',.arr 37 10 cp (noRs p),.arr 37 10 cq (noRs q)]) (.tmp rfl (.tmp rfl .nil)) (by decide) (ZNK rfl) (fun _=>.tL (.cons (.o rfl rfl) (.cons (.o rfl rfl) .nil))) ZCH (fun _=>⟨p,q,cp,cq,a',hp,hq,hall,hcp,hcq,rfl,rfl⟩)
end Go.Proofs.YtophoepbedlhjaaGreatDoor
namespace Go.Proofs.YtophoepbedlhjaaGreatDoor
open Go
set_option maxRecDepth 1000000
theorem zS11:xrun Tryz.prog xnone 43=some (.bool true):=by kernel_rfl
theorem zs15:ACalls Tryz.prog 43 [] [] fun u H=>u = .c (B true)∧H = []:=zY5 (by kernel_rfl) (zo13 _) (u:=.bool true) zS11
end Go.Proofs.YtophoepbedlhjaaGreatDoor
