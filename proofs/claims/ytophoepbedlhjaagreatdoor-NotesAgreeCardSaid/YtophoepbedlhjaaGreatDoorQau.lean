/- Numbers of texts, by value. -/
import Derived.Test.YtophoepbedlhjaaGreatDoorQar
import Derived.Test.YtophoepbedlhjaaGreatDoorQat
import Derived.WideLaws
set_option linter.unusedSimpArgs false
set_option linter.unusedVariables false
-- NEWM
namespace Go.Proofs.YtophoepbedlhjaaGreatDoor
open Go Go.RowKit
set_option maxRecDepth 100000
theorem zw5 {α:Type} (s:List α):s = []∨∃a x,s=a++[x]:=by
 by_cases h:s = []
 ·exact .inl h
 ·exact .inr ⟨s.dropLast,s.getLast h,(List.dropLast_concat_getLast h).symm⟩
theorem zK17 (s:List UInt8) (c:UInt8):ACalls Tryz.prog 202 [.c (T s),.c (T [c])] [] fun u H=>u = .c (B (decide (s.head?=some c)))∧H = []:=by
 refine zf (N:=18) Tryz.func202 rfl rfl (by simp) fun E hE=>?_
 cases s with
 | nil=>
  repeat' (first
   | refine ZY ?_
   | refine zo rfl (by assumption) ?_|refine zm rfl (by assumption) ?_|refine zl rfl (fun _=>?_) (fun _=>?_)|refine zj rfl (fun _=>?_) (fun _=>?_)
   | (refine zc (id:=1) ?_
      iterate 9 refine WX1 ?_
      first|refine ZS ?_|(refine G1 rfl ?_;refine zT3 rfl rfl (by decide) ZFALSE ?_)|skip
      refine WX1 ?_
      first|refine ZS ?_|(refine G1 rfl ?_;refine zT3 rfl rfl (by decide) ZFALSE ?_)|skip
      refine WE ?_)
   | (refine zc ?_;refine WE ?_))
  exact arz (q:=⟨congrArg (fun z=>AV.c (B z)) (by simp),rfl⟩)
 | cons b l=>
  have h1:(([c]:List UInt8).length:Int)≤((b :: l).length:Int):=by simp;omega
  obtain⟨q,hq⟩:∃q,decide ((List.take 1 (b :: l)).drop 0 = [c])=q:=⟨_,rfl⟩
  repeat' (first
   | refine ZY ?_
   | refine zo rfl (by assumption) ?_|refine zm rfl (by assumption) ?_|refine zl rfl (fun _=>?_) (fun _=>?_)|refine zj rfl (fun _=>?_) (fun _=>?_)
   | (refine zc (id:=1) ?_
      iterate 9 refine WX1 ?_
      first|refine ZP (zc3 (i:=0) (j:=1) rfl Tryz.underlying9 rfl (.inl ⟨rfl,rfl⟩) (.inr ⟨_,_,_,rfl,rfl,rfl⟩) (by simp) (by simp)) ?_|refine ZS ?_
      refine WX1 ?_
      first|refine ZP (zJ (a:=_) (b:=[c]) hq rfl Tryz.underlying9 rfl rfl) ?_|refine ZS ?_
      refine WE ?_)
   | (refine zc ?_;refine WE ?_))
  exact arz (q:=⟨congrArg (fun z=>AV.c (B z)) (by rw[←hq];simp),rfl⟩)
theorem zS17 (s:List UInt8) (c:UInt8):ACalls Tryz.prog 365 [.c (T s),.c (T [c])] [] fun u H=>u = .t [.c (T (if s.head?=some c then s.tail else s)),.c (B (decide (s.head?=some c)))]∧H = []:=by
 have hp:=zK17 s c
 obtain⟨q,hq⟩:∃q,decide (s.head?=some c)=q:=⟨_,rfl⟩
 rw[hq] at hp ⊢
 refine zf (N:=15) Tryz.func365 rfl rfl (by simp) fun E hE=>?_
 cases q with
 | false=>
  rw[if_neg (of_decide_eq_false hq)]
  refine WA ?_
  refine WR ?_
  refine ze rfl (efk (c:=fun _=>hp)) ?_
  rintro _ _ ⟨_,_,_,⟨rfl,rfl⟩,hF,hH⟩
  (refine NST hF hH ?_;clear hF hH;rintro rfl rfl)
  refine WE ?_
  refine zb rfl ?_
  refine WA ?_
  exact zF1 [] _ rfl rfl rfl rfl rfl (by decide) (ZNK rfl) (fun _=>.nil) ⟨rfl,rfl⟩
 | true=>
  have hd:=of_decide_eq_true hq
  rw[if_pos hd]
  cases s with
  | nil=>cases hd
  | cons b l=>
   refine WA ?_
   refine WR ?_
   refine ze rfl (efk (c:=fun _=>hp)) ?_
   rintro _ _ ⟨_,_,_,⟨rfl,rfl⟩,hF,hH⟩
   (refine NST hF hH ?_;clear hF hH;rintro rfl rfl)
   refine WE ?_
   refine za rfl ?_
   refine ZR ?_
   iterate 3 refine WX1 ?_
   refine ZA (zc3 (i:=1) (j:=(List.cons b l).length) rfl Tryz.underlying9 rfl (.inr ⟨_,_,_,rfl,rfl,rfl⟩) (.inl ⟨rfl,rfl⟩) (by simp) (by simp)) ?_
   refine WE ?_
   exact zF1 [] _ rfl rfl rfl rfl rfl (by decide) (ZNK rfl) (fun _=>.nil) ⟨by simp,rfl⟩
theorem zm15 (s:List UInt8) (c:UInt8):ACalls Tryz.prog 317 [.c (T s),.c (T [c])] [] fun u H=>u = .t [.c (T (if s.head?=some c then s.tail else s)),.c (B (decide (s.head?=some c)))]∧H = []:=by
 refine zf (N:=11) Tryz.func317 rfl rfl (by simp) fun E hE=>?_
 repeat' (first
  | refine ZY ?_
  | refine zo rfl (by assumption) ?_|refine zm rfl (by assumption) ?_|refine zl rfl (fun _=>?_) (fun _=>?_)|refine zj rfl (fun _=>?_) (fun _=>?_)
  | (refine zc (id:=1) ?_
     refine WO ?_
     refine ze rfl (efk (c:=fun _=>zS17 s c)) ?_
     rintro _ _ ⟨_,_,_,⟨rfl,rfl⟩,hF,hH⟩
     (refine NST hF hH ?_;clear hF hH;rintro rfl rfl)
     refine WE ?_)
  | (refine zc ?_;refine WE ?_))
 exact zF1 [] _ rfl rfl rfl rfl rfl (by decide) (ZNK rfl) (fun _=>.nil) ⟨rfl,rfl⟩
theorem zJ17 (s:List UInt8) (c:UInt8) (hl:s.length≤1000000000):ACalls Tryz.prog 151 [.c (T s),.c (T [c])] [] fun u H=>u = .c (B (decide (s.getLast?=some c)))∧H = []:=by
 refine zf (N:=21) Tryz.func151 rfl rfl (by simp) fun E hE=>?_
 rcases zw5 s with rfl|⟨a,x,rfl⟩
 ·repeat' (first
   | refine ZY ?_
   | refine zo rfl (by assumption) ?_|refine zm rfl (by assumption) ?_|refine zl rfl (fun _=>?_) (fun _=>?_)|refine zj rfl (fun _=>?_) (fun _=>?_)
   | (refine zc (id:=1) ?_
      iterate 12 refine WX1 ?_
      first|refine ZS ?_|(refine G1 rfl ?_;refine zT3 rfl rfl (by decide) ZFALSE ?_)|skip
      refine WX1 ?_
      first|refine ZS ?_|(refine G1 rfl ?_;refine zT3 rfl rfl (by decide) ZFALSE ?_)|skip
      refine WE ?_)
   | (refine zc ?_;refine WE ?_))
  exact arz (q:=⟨congrArg (fun z=>AV.c (B z)) (by simp),rfl⟩)
 ·have h1:(([c]:List UInt8).length:Int)≤((a++[x]).length:Int):=by simp;omega
  have hla:(a++[x]).length=a.length+1:=by simp
  have hw:((a++[x]).length:Int) - (([c]:List UInt8).length:Int)=(a.length:Int):=by
   have e:(([c]:List UInt8).length:Int)=1:=rfl
   rw[e,hla]
   omega
  obtain⟨q,hq⟩:∃q,decide ((List.take (a++[x]).length (a++[x])).drop a.length = [c])=q:=⟨_,rfl⟩
  repeat' (first
   | refine ZY ?_
   | refine zo rfl (by assumption) ?_|refine zm rfl (by assumption) ?_|refine zl rfl (fun _=>?_) (fun _=>?_)|refine zj rfl (fun _=>?_) (fun _=>?_)
   | (refine zc (id:=1) ?_
      iterate 12 refine WX1 ?_
      first|refine ZP (zc3 (i:=a.length) (j:=(a++[x]).length) rfl Tryz.underlying9 rfl (.inr ⟨_,_,_,rfl,rfl,hw⟩) (.inl ⟨rfl,rfl⟩) (by simp) (by simp)) ?_|refine ZS ?_
      refine WX1 ?_
      first|refine ZP (zJ (a:=_) (b:=[c]) hq rfl Tryz.underlying9 rfl rfl) ?_|refine ZS ?_
      refine WE ?_)
   | (refine zc ?_;refine WE ?_))
  exact arz (q:=⟨congrArg (fun z=>AV.c (B z)) (by rw[←hq,List.take_length,show (a++[x]).drop a.length = [x] by simp];simp),rfl⟩)
theorem zR17 (s:List UInt8) (c:UInt8) (hl:s.length≤1000000000):ACalls Tryz.prog 218 [.c (T s),.c (T [c])] [] fun u H=>u = .t [.c (T (if s.getLast?=some c then s.dropLast else s)),.c (B (decide (s.getLast?=some c)))]∧H = []:=by
 have hp:=zJ17 s c hl
 obtain⟨q,hq⟩:∃q,decide (s.getLast?=some c)=q:=⟨_,rfl⟩
 rw[hq] at hp ⊢
 refine zf (N:=18) Tryz.func218 rfl rfl (by simp) fun E hE=>?_
 cases q with
 | false=>
  rw[if_neg (of_decide_eq_false hq)]
  refine WA ?_
  refine WR ?_
  refine ze rfl (efk (c:=fun _=>hp)) ?_
  rintro _ _ ⟨_,_,_,⟨rfl,rfl⟩,hF,hH⟩
  (refine NST hF hH ?_;clear hF hH;rintro rfl rfl)
  refine WE ?_
  refine zb rfl ?_
  refine WA ?_
  exact zF1 [] _ rfl rfl rfl rfl rfl (by decide) (ZNK rfl) (fun _=>.nil) ⟨rfl,rfl⟩
 | true=>
  have hd:=of_decide_eq_true hq
  rw[if_pos hd]
  rcases zw5 s with rfl|⟨a,x,rfl⟩
  ·cases hd
  ·have hla:(a++[x]).length=a.length+1:=by simp
   have hw:((a++[x]).length:Int) - (([c]:List UInt8).length:Int)=(a.length:Int):=by
    have e:(([c]:List UInt8).length:Int)=1:=rfl
    rw[e,hla]
    omega
   refine WA ?_
   refine WR ?_
   refine ze rfl (efk (c:=fun _=>hp)) ?_
   rintro _ _ ⟨_,_,_,⟨rfl,rfl⟩,hF,hH⟩
   (refine NST hF hH ?_;clear hF hH;rintro rfl rfl)
   refine WE ?_
   refine za rfl ?_
   refine ZR ?_
   iterate 6 refine WX1 ?_
   refine ZA (zc3 (i:=0) (j:=a.length) rfl Tryz.underlying9 rfl (.inl ⟨rfl,rfl⟩) (.inr ⟨_,_,_,rfl,rfl,hw⟩) (by simp) (by simp)) ?_
   refine WE ?_
   exact zF1 [] _ rfl rfl rfl rfl rfl (by decide) (ZNK rfl) (fun _=>.nil) ⟨by simp,rfl⟩
theorem zl15 (s:List UInt8) (c:UInt8) (hl:s.length≤1000000000):ACalls Tryz.prog 138 [.c (T s),.c (T [c])] [] fun u H=>u = .t [.c (T (if s.getLast?=some c then s.dropLast else s)),.c (B (decide (s.getLast?=some c)))]∧H = []:=by
 refine zf (N:=11) Tryz.func138 rfl rfl (by simp) fun E hE=>?_
 repeat' (first
  | refine ZY ?_
  | refine zo rfl (by assumption) ?_|refine zm rfl (by assumption) ?_|refine zl rfl (fun _=>?_) (fun _=>?_)|refine zj rfl (fun _=>?_) (fun _=>?_)
  | (refine zc (id:=1) ?_
     refine WO ?_
     refine ze rfl (efk (c:=fun _=>zR17 s c hl)) ?_
     rintro _ _ ⟨_,_,_,⟨rfl,rfl⟩,hF,hH⟩
     (refine NST hF hH ?_;clear hF hH;rintro rfl rfl)
     refine WE ?_)
  | (refine zc ?_;refine WE ?_))
 exact zF1 [] _ rfl rfl rfl rfl rfl (by decide) (ZNK rfl) (fun _=>.nil) ⟨rfl,rfl⟩
theorem zS15 (V:Value) (ws:List (List UInt8)) (hl:(Lib.join ws [32]).length≤1000000) (hn:ws.length≤1000000):ACalls Tryz.prog 142 [.c (.r V (wR ws))] [] fun u H=>u = .c (T (jnF ws))∧H = []:=by
 refine zf (N:=6) Tryz.func142 rfl rfl (by simp) fun E hE=>?_
 repeat' (first
  | refine ZY ?_
  | refine zo rfl (by assumption) ?_|refine zm rfl (by assumption) ?_|refine zl rfl (fun _=>?_) (fun _=>?_)|refine zj rfl (fun _=>?_) (fun _=>?_)
  | (refine zc (id:=1) ?_
     refine WO ?_
     refine ze rfl (efk (c:=fun _=>zC17 V ws [32] (by omega) hn)) ?_
     rintro _ _ ⟨_,_,_,⟨rfl,rfl⟩,hF,hH⟩
     (refine NST hF hH ?_;clear hF hH;rintro rfl rfl)
     refine ZA (ze12 (a:=Lib.join ws [32]) (b:=[10]) rfl Tryz.underlying9 rfl rfl (by simp;omega)) ?_
     refine WE ?_)
  | (refine zc ?_;refine WE ?_))
 exact arz (q:=⟨rfl,rfl⟩)
theorem zD11 (s:List UInt8) (hl:s.length≤1000000):ACalls Tryz.prog 140 [.c (T s)] [] fun u H=>(∃V,u = .t [.c (.r V (wR ((wrdsF s).getD []))),.c (B (wrdsF s).isSome)])∧H = []:=by
 refine zf (N:=19) Tryz.func140 rfl rfl (by simp) fun E hE=>?_
 have hsl:=zf5 (c:=32) s
 have hcs:=List.count_le_length (a:=32) (l:=s)
 refine WA ?_
 refine WR ?_
 refine ze rfl (efk (c:=fun _=>zJ11 s 32 (by omega))) ?_
 rintro _ _ ⟨_,_,_,⟨⟨va,rfl⟩,rfl⟩,hF,hH⟩
 (refine NST hF hH ?_;clear hF hH;rintro rfl rfl)
 refine WE ?_
 refine WA ?_
 have eL:(wR (spl 32 s)).length=(spl 32 s).length:=by simp
 refine zq (fun m F H=>∃k:Nat,m+k=(spl 32 s).length∧[]∉(spl 32 s).take k∧F = [(4,.c (.r va (wR (spl 32 s)))),(9,.c (.r va (wR (spl 32 s)))),(10,.c (I (wR (spl 32 s)).length)),(11,.c (I k))]∧H = []) ?_ ?_
 ·refine wkg [] (fun _=>[(4,.c (.r va (wR (spl 32 s)))),(9,.c (.r va (wR (spl 32 s)))),(10,.c (I (wR (spl 32 s)).length)),(11,.c (I (0:Nat)))]) (fun _=>[]) (fun _=>⟨_,0,rfl,by simp,rfl,rfl⟩) (hH:=fun _=>.nil)
 rintro m F H ⟨k,hk,hno,rfl,rfl⟩
 refine WA ?_
 refine zl rfl (fun hlt=>?_) (fun hge=>?_)
 ·obtain⟨w,hw⟩:∃w,(spl 32 s)[k]?=some w:=⟨_,List.getElem?_eq_getElem (by omega)⟩
  have hrow:(wR (spl 32 s))[k]?=some [T w]:=by rw[List.getElem?_map,hw];rfl
  obtain⟨q,hq⟩:∃q,decide (w = [])=q:=⟨_,rfl⟩
  refine WA ?_
  refine ZR ?_
  refine WX1 ?_
  refine ZA (zJ (a:=w) (b:=[]) hq rfl Tryz.underlying9 rfl rfl) ?_
  refine WE ?_
  cases q with
  | true=>
   obtain rfl:=of_decide_eq_true hq
   have hm:wrdsF s=none:=by unfold wrdsF;rw[if_pos (List.mem_of_getElem? hw)]
   refine zb rfl ?_
   refine WA ?_
   rw[hm]
   exact zA (us:=[.c (.r (.slice none 0 0) []),.c (B false)]) [] (fun _=>.t [.c (.r (.slice none 0 0) []),.c (B false)]) (fun _=>[]) (.tmp rfl (.tmp rfl .nil)) (by decide) (ZNK rfl) (fun _=>.tL (.cons (.c rfl) (.cons (.c rfl) .nil))) ZCH (fun _=>⟨⟨_,rfl⟩,rfl⟩)
  | false=>
   have hne:=of_decide_eq_false hq
   refine za rfl ?_
   refine WA ?_
   refine wkg [] (fun _=>[(4,.c (.r va (wR (spl 32 s)))),(9,.c (.r va (wR (spl 32 s)))),(10,.c (I (wR (spl 32 s)).length)),(11,.c (I (k+1:Nat)))]) (fun _=>[]) (fun _=>⟨m - 1,by omega,k+1,by omega, ?_,rfl,rfl⟩) (hH:=fun _=>.nil)
   rw[List.take_add_one,hw,Option.toList_some,List.mem_append,List.mem_singleton]
   exact fun h=>h.elim hno fun h=>hne h.symm
 ·have hkn:k=(spl 32 s).length:=by omega
  rw[hkn,List.take_length] at hno
  have hm:wrdsF s=some (spl 32 s):=by unfold wrdsF;rw[if_neg hno]
  refine WA ?_
  rw[hm]
  exact zA (us:=[.c (.r va (wR (spl 32 s))),.c (B true)]) [] (fun _=>.t [.c (.r va (wR (spl 32 s))),.c (B true)]) (fun _=>[]) (.tmp rfl (.tmp rfl .nil)) (by decide) (ZNK rfl) (fun _=>.tL (.cons (.c rfl) (.cons (.c rfl) .nil))) ZCH (fun _=>⟨⟨_,rfl⟩,rfl⟩)
theorem zP15 (s:List UInt8) (hl:s.length≤1000000):ACalls Tryz.prog 73 [.c (T s)] [] fun u H=>(∃V,u = .t [.c (.r V (wR (lnsF s).1)),.c (B (lnsF s).2)])∧H = []:=by
 refine zf (N:=16) Tryz.func73 rfl rfl (by simp) fun E hE=>?_
 obtain⟨q,hq⟩:∃q,decide (s = [])=q:=⟨_,rfl⟩
 refine WA ?_
 refine ZR ?_
 refine WX1 ?_
 refine ZA (zJ (a:=s) (b:=[]) hq rfl Tryz.underlying9 rfl rfl) ?_
 refine WE ?_
 cases q with
 | true=>
  obtain rfl:=of_decide_eq_true hq
  refine zb rfl ?_
  refine WA ?_
  exact zA (us:=[.c (.r (.slice none 0 0) []),.c (B true)]) [] (fun _=>.t [.c (.r (.slice none 0 0) []),.c (B true)]) (fun _=>[]) (.tmp rfl (.tmp rfl .nil)) (by decide) (ZNK rfl) (fun _=>.tL (.cons (.c rfl) (.cons (.c rfl) .nil))) ZCH (fun _=>⟨⟨_,rfl⟩,rfl⟩)
 | false=>
  have hne:=of_decide_eq_false hq
  refine za rfl ?_
  refine ZZ ?_
  obtain⟨ls,en,hls⟩:∃ls en,lnsF s=(ls,en):=⟨_,_,rfl⟩
  obtain⟨b,hb,hbl,h2⟩:∃b,(if s.getLast?=some 10 then s.dropLast else s)=b∧b.length≤1000000∧(ls=spl 10 b∧en=decide (s.getLast?=some 10)):=by
   refine⟨_,rfl,by split <;> (try rw[List.length_dropLast]) <;> omega, ?_⟩
   unfold lnsF at hls
   rw[if_neg hne] at hls
   split at hls
   ·rename_i h;injection hls with h1 h2;rw[←h1,←h2,if_pos h,decide_eq_true h];exact⟨rfl,rfl⟩
   ·rename_i h;injection hls with h1 h2;rw[←h1,←h2,if_neg h,decide_eq_false h];exact⟨rfl,rfl⟩
  obtain⟨rfl,hen⟩:=h2
  have hcs:=zl15 s 10 (by omega)
  rw[hb,←hen] at hcs
  rw[hls]
  clear hls hb hq
  refine WR ?_
  refine ze rfl (efk (c:=fun _=>hcs)) ?_
  rintro _ _ ⟨_,_,_,⟨rfl,rfl⟩,hF,hH⟩
  (refine NST hF hH ?_;clear hF hH;rintro rfl rfl)
  refine WE ?_
  refine WR ?_
  refine ze rfl (efk (c:=fun _=>zJ11 b 10 (by omega))) ?_
  rintro _ _ ⟨_,_,_,⟨⟨va,rfl⟩,rfl⟩,hF,hH⟩
  (refine NST hF hH ?_;clear hF hH;rintro rfl rfl)
  refine WE ?_
  exact zA (us:=[.c (.r va (wR (spl 10 b))),.c (B en)]) [] (fun _=>.t [.c (.r va (wR (spl 10 b))),.c (B en)]) (fun _=>[]) (.tmp rfl (.tmp rfl .nil)) (by decide) (ZNK rfl) (fun _=>.tL (.cons (.c rfl) (.cons (.c rfl) .nil))) ZCH (fun _=>⟨⟨_,rfl⟩,rfl⟩)
end Go.Proofs.YtophoepbedlhjaaGreatDoor
-- NEWM
namespace Go.Proofs.YtophoepbedlhjaaGreatDoor
open Go Go.RowKit
set_option maxRecDepth 100000
abbrev digL:List UInt8:=[48,49,50,51,52,53,54,55,56,57]
theorem trD_nil {s:List UInt8}:trB digL s = []↔s.all digB=true:=by
 rw[zH11,List.all_eq_true]
 have h0:∀k:Fin 256,digL.contains (UInt8.ofNat k.val)=digB (UInt8.ofNat k.val):=by decide +kernel
 have:∀b:UInt8,digL.contains b=digB b:=fun b=>by
  have:=h0 ⟨b.toNat,b.toNat_lt⟩
  rwa [show UInt8.ofNat b.toNat=b from UInt8.ofNat_toNat] at this
 exact⟨fun h b hb=>this b▸h b hb,fun h b hb=>(this b).trans (h b hb)⟩
theorem zy10 (s:List UInt8):(if s.head?=some 45 then s.tail else s)=dgs s:=by
 cases s with
 | nil=>rfl
 | cons b l=>by_cases h:b=45 <;> simp[dgs,h]
theorem zU8 {P:Program} {N:Nat} {E:Env} {F:Fm} {H:List OB} {o:Oper} {t yt:TypeId} {x:Operand} (ho:o.op = .binOp .eql t x (.const .nilIface) yt) (ht:P.underlying t=some (.interface (P.methodsAt t))) (hx:ev F x=some (.c (.s .nilIface))):Rd P N E o F H (.c (.s (.bool true))):=
 zD1 ho hx rfl (fun _ _=>rfl) (fun _ _=>rfl) fun w=>by
  rw[Sem.run_bind]
  refine Eq.trans (congrArg (fun r=>Result.andThen r _) (show (eqGuard .eql t x (.const .nilIface) .nilIface .nilIface).run P w = .ok () w by rw[eqGuard_nil_constR];rfl)) ?_
  exact run_eql_nil_nil w t ht
theorem zu18 {s:List UInt8} {r:Bool} (h:dokB s=true→badN s=true):numF s=none:=by
 unfold numF
 rw[if_neg]
 intro⟨h1,h2⟩
 rw[h h1] at h2
 cases h2
theorem zP13 (s:List UInt8) (hl:s.length≤1000000):ACalls Tryz.prog 255 [.c (T s),.c (I 15)] [] fun u H=>u = .t [.c (I ((numF s).getD 0)),.c (B (numF s).isSome)]∧H = []:=by
 have hcp:=zm15 s 45
 rw[zy10] at hcp
 have hdl:(dgs s).length≤1000000:=by
  have:(dgs s).length≤s.length:=by
   rw[←zy10];split
   ·rw[List.length_tail];omega
   ·exact Nat.le_refl _
  omega
 have hnum:∀q,numF s=q→numF s=q:=fun _ h=>h
 have hdk:=@dokB_iff s
 have hbd:badN s=(decide ((dgs s).head?=some 48) && (decide (1 < (dgs s).length) || negB s)):=rfl
 have hsv:svN s=if negB s=true then -(valN (dgs s):Int) else (valN (dgs s):Int):=rfl
 have hvl:(dgs s).length≤15→(dgs s).all digB=true→valN (dgs s) < 1000000000000000:=zN16
 have hat:dgs s≠[]→(dgs s).all digB=true→Lib.atoi (dgs s)=some (valN (dgs s):Int):=zj14
 change ACalls _ _ _ _ fun u H=>u = .t [.c (T (dgs s)),.c (B (negB s))]∧H = [] at hcp
 generalize dgs s=d at hcp hdl hdk hbd hsv hvl hat
 generalize hng:negB s=ng at hcp hbd hsv
 have hfail:(dokB s=true→badN s=true)→numF s=none:=zu18 (r:=true)
 obtain⟨qe,hqe⟩:∃q,decide (d = [])=q:=⟨_,rfl⟩
 obtain⟨qt,hqt⟩:∃q,decide (trB digL d≠[])=q:=⟨_,rfl⟩
 refine zf (N:=52) Tryz.func255 rfl rfl (by simp) fun E hE=>?_
 refine WA ?_
 refine WR ?_
 refine ze rfl (efk (c:=fun _=>hcp)) ?_
 rintro _ _ ⟨_,_,_,⟨rfl,rfl⟩,hF,hH⟩
 (refine NST hF hH ?_;clear hF hH;rintro rfl rfl)
 refine WE ?_
 cases d with
 | nil=>
  obtain rfl:qe=true:=by rw[←hqe];rfl
  rw[hfail fun h=>absurd rfl (hdk.1 h).1]
  refine ZR ?_
  refine WX1 ?_
  refine ZA (zJ (a:=_) (b:=[]) hqe rfl Tryz.underlying9 rfl rfl) ?_
  refine WE ?_
  refine zb rfl ?_
  refine WA ?_
  exact zF1 [] _ rfl rfl rfl rfl rfl (by decide) (ZNK rfl) (fun _=>.nil) ⟨rfl,rfl⟩
 | cons b r=>
  obtain rfl:qe=false:=by rw[←hqe];simp
  have hvl15:=hvl
  by_cases h15:(b :: r).length≤15
  ·have h15n:¬(15:Int) < ((b :: r).length:Int):=by omega
   cases qt with
   | true=>
    have hna:=of_decide_eq_true hqt
    rw[hfail fun h=>absurd (trD_nil.2 (hdk.1 h).2.2) hna]
    refine ZR ?_
    refine WX1 ?_
    refine ZA (zJ (a:=_) (b:=[]) hqe rfl Tryz.underlying9 rfl rfl) ?_
    refine WO ?_
    first|refine ZS ?_|(refine G1 rfl ?_;refine ze rfl (efk (c:=fun _=>zc4 digL _ (by decide) (by decide) (by omega))) ?_;rintro _ _ ⟨_,_,_,⟨rfl,rfl⟩,hF,hH⟩;(refine NST hF hH ?_;clear hF hH;rintro rfl rfl))|skip
    first|refine ZP (za1 (b:=[]) hqt rfl Tryz.underlying9 rfl rfl) ?_|refine ZS ?_
    iterate 3 refine WX1 ?_
    first|refine ZP (zb2 (i:=0) rfl Tryz.underlying9 rfl rfl rfl rfl) ?_|refine ZS ?_
    refine WE ?_
    refine zb rfl ?_
    refine WA ?_
    exact zF1 [] _ rfl rfl rfl rfl rfl (by decide) (ZNK rfl) (fun _=>.nil) ⟨rfl,rfl⟩
   | false=>
    have hall:(b :: r).all digB=true:=trD_nil.1 (Decidable.not_not.1 (of_decide_eq_false hqt))
    have hdok:=hdk.2 ⟨by simp,h15,hall⟩
    have hv1:=hvl h15 hall
    have hato:=zX17 (b :: r) (valN (b :: r):Int) (by omega) (hat (by simp) hall)
    by_cases h48:b=48
    ·subst h48
     by_cases h1:1 < (48 :: r).length
     ·have h1i:(1:Int) < (((48:UInt8) :: r).length:Int):=by omega
      rw[hfail fun _=>by rw[hbd,decide_eq_true h1];rfl]
      refine ZR ?_
      refine WX1 ?_
      refine ZA (zJ (a:=_) (b:=[]) hqe rfl Tryz.underlying9 rfl rfl) ?_
      refine WO ?_
      first|refine ZS ?_|(refine G1 rfl ?_;refine ze rfl (efk (c:=fun _=>zc4 digL _ (by decide) (by decide) (by omega))) ?_;rintro _ _ ⟨_,_,_,⟨rfl,rfl⟩,hF,hH⟩;(refine NST hF hH ?_;clear hF hH;rintro rfl rfl))|skip
      first|refine ZP (za1 (b:=[]) hqt rfl Tryz.underlying9 rfl rfl) ?_|refine ZS ?_
      iterate 3 refine WX1 ?_
      first|refine ZP (zb2 (i:=0) rfl Tryz.underlying9 rfl rfl rfl rfl) ?_|refine ZS ?_
      refine WE ?_
      refine zb rfl ?_
      refine WA ?_
      exact zF1 [] _ rfl rfl rfl rfl rfl (by decide) (ZNK rfl) (fun _=>.nil) ⟨rfl,rfl⟩
     ·have h1i:¬(1:Int) < (((48:UInt8) :: r).length:Int):=by omega
      cases ng with
      | true=>
       rw[hfail fun _=>by rw[hbd];simp]
       refine ZR ?_
       refine WX1 ?_
       refine ZA (zJ (a:=_) (b:=[]) hqe rfl Tryz.underlying9 rfl rfl) ?_
       refine WO ?_
       first|refine ZS ?_|(refine G1 rfl ?_;refine ze rfl (efk (c:=fun _=>zc4 digL _ (by decide) (by decide) (by omega))) ?_;rintro _ _ ⟨_,_,_,⟨rfl,rfl⟩,hF,hH⟩;(refine NST hF hH ?_;clear hF hH;rintro rfl rfl))|skip
       first|refine ZP (za1 (b:=[]) hqt rfl Tryz.underlying9 rfl rfl) ?_|refine ZS ?_
       iterate 3 refine WX1 ?_
       first|refine ZP (zb2 (i:=0) rfl Tryz.underlying9 rfl rfl rfl rfl) ?_|refine ZS ?_
       refine WE ?_
       refine zb rfl ?_
       refine WA ?_
       exact zF1 [] _ rfl rfl rfl rfl rfl (by decide) (ZNK rfl) (fun _=>.nil) ⟨rfl,rfl⟩
      | false=>
       rw[show numF s=some (valN (48 :: r):Int) by unfold numF;rw[if_pos ⟨hdok,by rw[hbd,decide_eq_false h1];simp⟩,hsv];rfl]
       refine ZR ?_
       refine WX1 ?_
       refine ZA (zJ (a:=_) (b:=[]) hqe rfl Tryz.underlying9 rfl rfl) ?_
       refine WO ?_
       first|refine ZS ?_|(refine G1 rfl ?_;refine ze rfl (efk (c:=fun _=>zc4 digL _ (by decide) (by decide) (by omega))) ?_;rintro _ _ ⟨_,_,_,⟨rfl,rfl⟩,hF,hH⟩;(refine NST hF hH ?_;clear hF hH;rintro rfl rfl))|skip
       first|refine ZP (za1 (b:=[]) hqt rfl Tryz.underlying9 rfl rfl) ?_|refine ZS ?_
       iterate 3 refine WX1 ?_
       first|refine ZP (zb2 (i:=0) rfl Tryz.underlying9 rfl rfl rfl rfl) ?_|refine ZS ?_
       refine WE ?_
       refine za rfl ?_
       refine WR ?_
       refine ze rfl (efk (c:=fun _=>hato)) ?_
       rintro _ _ ⟨_,_,_,⟨rfl,rfl⟩,hF,hH⟩
       (refine NST hF hH ?_;clear hF hH;rintro rfl rfl)
       refine WE ?_
       refine WA ?_
       refine za rfl ?_
       refine ZZ ?_
       refine zd [(0,none),(1,none),(2,none),(3,none),(4,none)] zn (by kernel_rfl) ?_
       iterate 2 refine WX2 ?_
       refine ZT rfl (zU8 rfl (by kernel_rfl) rfl) ?_
       refine WQ ?_
       exact zF1 [] _ rfl rfl rfl rfl rfl (by decide) (ZNK rfl) (fun _=>.nil) ⟨rfl,rfl⟩
    ·have h48n:¬(b.toNat:Int)=48:=fun h=>h48 (UInt8.toNat.inj (by rw[show (48:UInt8).toNat=48 from rfl];omega))
     have hbf:badN s=false:=by rw[hbd];simp[h48]
     refine ZR ?_
     refine WX1 ?_
     refine ZA (zJ (a:=_) (b:=[]) hqe rfl Tryz.underlying9 rfl rfl) ?_
     refine WO ?_
     first|refine ZS ?_|(refine G1 rfl ?_;refine ze rfl (efk (c:=fun _=>zc4 digL _ (by decide) (by decide) (by omega))) ?_;rintro _ _ ⟨_,_,_,⟨rfl,rfl⟩,hF,hH⟩;(refine NST hF hH ?_;clear hF hH;rintro rfl rfl))|skip
     first|refine ZP (za1 (b:=[]) hqt rfl Tryz.underlying9 rfl rfl) ?_|refine ZS ?_
     iterate 3 refine WX1 ?_
     first|refine ZP (zb2 (i:=0) rfl Tryz.underlying9 rfl rfl rfl rfl) ?_|refine ZS ?_
     refine WE ?_
     refine za rfl ?_
     refine WR ?_
     refine ze rfl (efk (c:=fun _=>hato)) ?_
     rintro _ _ ⟨_,_,_,⟨rfl,rfl⟩,hF,hH⟩
     (refine NST hF hH ?_;clear hF hH;rintro rfl rfl)
     refine WE ?_
     cases ng with
     | true=>
      rw[show numF s=some (-(valN (b :: r):Int)) by unfold numF;rw[if_pos ⟨hdok,hbf⟩,hsv];rfl]
      refine WA ?_
      refine zb rfl ?_
      refine WA ?_
      refine ZZ ?_
      refine zd [(0,none),(1,none),(2,none),(3,none),(4,none)] zn (by kernel_rfl) ?_
      iterate 2 refine WX2 ?_
      refine ZT rfl (zU8 rfl (by kernel_rfl) rfl) ?_
      refine WQ ?_
      exact zF1 [] _ rfl rfl rfl rfl rfl (by decide) (ZNK rfl) (fun _=>.nil) ⟨rfl,rfl⟩
     | false=>
      rw[show numF s=some (valN (b :: r):Int) by unfold numF;rw[if_pos ⟨hdok,hbf⟩,hsv];rfl]
      refine WA ?_
      refine za rfl ?_
      refine ZZ ?_
      refine zd [(0,none),(1,none),(2,none),(3,none),(4,none)] zn (by kernel_rfl) ?_
      iterate 2 refine WX2 ?_
      refine ZT rfl (zU8 rfl (by kernel_rfl) rfl) ?_
      refine WQ ?_
      exact zF1 [] _ rfl rfl rfl rfl rfl (by decide) (ZNK rfl) (fun _=>.nil) ⟨rfl,rfl⟩
  ·have h15y:(15:Int) < ((b :: r).length:Int):=by omega
   rw[hfail fun h=>absurd (hdk.1 h).2.1 h15]
   refine ZR ?_
   refine WX1 ?_
   refine ZA (zJ (a:=_) (b:=[]) hqe rfl Tryz.underlying9 rfl rfl) ?_
   refine WE ?_
   refine zb rfl ?_
   refine WA ?_
   exact zF1 [] _ rfl rfl rfl rfl rfl (by decide) (ZNK rfl) (fun _=>.nil) ⟨rfl,rfl⟩
end Go.Proofs.YtophoepbedlhjaaGreatDoor
