/- Keys, by value: the program's and the document's. -/
import Derived.Test.YtophoepbedlhjaaGreatDoorQas
set_option linter.unusedSimpArgs false
set_option linter.unusedVariables false
-- NEWM
namespace Go.Proofs.YtophoepbedlhjaaGreatDoor
open Go Go.RowKit
set_option maxRecDepth 100000
def trR (p:UInt8→Bool) (s:List UInt8):List UInt8:=(s.reverse.dropWhile p).reverse
abbrev trB (cut s:List UInt8):List UInt8:=(trR (fun b=>cut.contains b) s).dropWhile fun b=>cut.contains b
theorem trR_snoc (p:UInt8→Bool) (s:List UInt8) (b:UInt8):trR p (s++[b])=if p b=true then trR p s else s++[b]:=by
 unfold trR
 rw[List.reverse_append,List.reverse_singleton,List.singleton_append,List.dropWhile_cons]
 split
 ·rfl
 ·rw[List.reverse_cons,List.reverse_reverse]
theorem trR_len (p:UInt8→Bool) (s:List UInt8):(trR p s).length≤s.length:=by
 unfold trR
 rw[List.length_reverse]
 have:=(List.dropWhile_suffix (l:=s.reverse) p).length_le
 rwa [List.length_reverse] at this
theorem zn3 {P:Program} {N:Nat} {E:Env} {F:Fm} {H:List OB} {o:Oper} {t yt:TypeId} {x y:Operand} {a b:List UInt8} {q:Bool} (h:decide (a=b)=q) (ho:o.op = .binOp .eql t x y yt) (ht:P.underlying t=some .string) (hx:ev F x=some (.c (T a))) (hy:ev F y=some (.c (T b))):Rd P N E o F H (.c (B q)):=h▸zS7 ho ht hx hy
theorem trimr_v (cut s:List UInt8) (hl:s.length≤1000000000):ACalls Tryz.prog 233 [.c (T s),.p 0 0 0] [.box (ascL cut)] fun u H=>u = .c (T (trR (fun b=>cut.contains b) s))∧H = [.box (ascL cut)]:=by
 refine zb (N:=22) Tryz.func233 rfl rfl (by simp) fun E hE=>?_
 refine WA ?_
 refine zm (fun m F H=>∃r:List UInt8,r.length=m∧r.length≤1000000000∧trR (fun b=>cut.contains b) r=trR (fun b=>cut.contains b) s∧F = [(0,.c (T r)),(1,.p 0 0 0)]∧H = [.box (ascL cut)]) ?_ ?_
 ·refine wkg [some 0] (fun _=>[(0,.c (T s)),(1,.p 0 0 0)]) (fun _=>[.box (ascL cut)]) (fun _=>?_) (hH:=fun _=>.box rfl (C0 (zP _)) .nil)
  exact⟨_,s,rfl,hl,rfl,rfl,rfl⟩
 rintro m F H ⟨r,hm,hrl,hr,rfl,rfl⟩
 rcases List.eq_nil_or_concat r with rfl|⟨r1,b,rfl⟩
 ·refine WA ?_
  refine zt rfl (by simp) ?_
  refine WA ?_
  exact zP2 [some 0] [.box (ascL cut)] rfl rfl rfl (by decide) (ZNK rfl) (fun _=>.box rfl (C0 (zP _)) .nil) ⟨by rw[←hr];rfl,rfl⟩
 rw[List.concat_eq_append] at *
 have hb:(r1++[b])[r1.length]?=some b:=by simp
 have hlen:((r1++[b]).length:Int)=(r1.length:Int)+1:=by simp
 have hsn:=trR_snoc (fun b=>cut.contains b) r1 b
 have hlr:r1.length≤1000000000:=by rw[List.length_append] at hrl;omega
 refine WA ?_
 refine zd rfl ?_
 obtain⟨q,hq⟩:∃q,cut.contains b=q:=⟨_,rfl⟩
 refine ZR ?_
 iterate 5 refine WX1 ?_
 refine ZA (zg4 (i:=r1.length) rfl Tryz.underlying9 rfl rfl (by first|(simp;done)|(simp;omega)) hb) ?_
 refine zf rfl (zP1 [0] (fun _=>[.box (ascL cut)]) false (fun _=>zq9 cut b) rfl .fn rfl (by decide) (by kernel_rfl) rfl (fun _=>.cons (.p rfl) (.cons (.c rfl) .nil)) (by decide) (fun _=>.box rfl (C0 (zP _)) .nil) (by simp)) ?_
 rintro F1 H1 ⟨_,_,_,_,⟨rfl,rfl⟩,hF,hH⟩
 rw[hq] at hF
 (refine NSU hF hH ?_;clear hF hH;rintro rfl rfl)
 refine WE ?_
 cases q with
 | true=>
  rw[if_pos hq] at hsn
  refine za rfl ?_
  refine ZR ?_
  iterate 4 refine WX1 ?_
  refine ZA (zF10 (i:=0) (j:=r1.length) rfl Tryz.underlying9 rfl (.inl ⟨rfl,rfl⟩) (.inr ⟨_,_,_,rfl,rfl,by simp⟩) (by first|(simp;done)|(simp;omega)) (by first|(simp;done)|(simp;omega))) ?_
  refine WE ?_
  refine wkg [some 0] (fun _=>[(0,.c (T r1)),(1,.p 0 0 0)]) (fun _=>[.box (ascL cut)]) (fun _=>?_) (hH:=fun _=>.box rfl (C0 (zP _)) .nil)
  exact⟨_,by rw[←hm,List.length_append];exact Nat.lt_succ_self _,r1,rfl,hlr,by rw[←hr,hsn],rfl,rfl⟩
 | false=>
  rw[if_neg (by rw[hq];simp)] at hsn
  refine zd rfl ?_
  refine WA ?_
  exact zP2 [some 0] [.box (ascL cut)] rfl rfl rfl (by decide) (ZNK rfl) (fun _=>.box rfl (C0 (zP _)) .nil) ⟨by rw[←hr,hsn],rfl⟩
theorem triml_v (cut s:List UInt8) (hl:s.length≤1000000000):ACalls Tryz.prog 232 [.c (T s),.p 0 0 0] [.box (ascL cut)] fun u H=>u = .c (T (s.dropWhile fun b=>cut.contains b))∧H = [.box (ascL cut)]:=by
 refine zb (N:=16) Tryz.func232 rfl rfl (by simp) fun E hE=>?_
 refine WA ?_
 refine zm (fun m F H=>∃r:List UInt8,r.length=m∧r.length≤1000000000∧(r.dropWhile fun b=>cut.contains b)=(s.dropWhile fun b=>cut.contains b)∧F = [(0,.c (T r)),(1,.p 0 0 0)]∧H = [.box (ascL cut)]) ?_ ?_
 ·refine wkg [some 0] (fun _=>[(0,.c (T s)),(1,.p 0 0 0)]) (fun _=>[.box (ascL cut)]) (fun _=>?_) (hH:=fun _=>.box rfl (C0 (zP _)) .nil)
  exact⟨_,s,rfl,hl,rfl,rfl,rfl⟩
 rintro m F H ⟨r,hm,hrl,hr,rfl,rfl⟩
 cases r with
 | nil=>
  refine WA ?_
  refine zt rfl (by simp) ?_
  refine WA ?_
  exact zP2 [some 0] [.box (ascL cut)] rfl rfl rfl (by decide) (ZNK rfl) (fun _=>.box rfl (C0 (zP _)) .nil) ⟨by rw[←hr];rfl,rfl⟩
 | cons b r1=>
 have hb:(b :: r1)[0]?=some b:=rfl
 have hlr:r1.length≤1000000000:=by rw[List.length_cons] at hrl;omega
 rw[List.dropWhile_cons] at hr
 obtain⟨q,hq⟩:∃q,cut.contains b=q:=⟨_,rfl⟩
 rw[hq] at hr
 refine WA ?_
 refine zu rfl (by first|(simp;done)|(simp;omega)) ?_
 refine ZR ?_
 iterate 2 refine WX1 ?_
 refine ZA (zg4 (i:=0) rfl Tryz.underlying9 rfl rfl (by first|(simp;done)|(simp;omega)) hb) ?_
 refine zf rfl (zP1 [0] (fun _=>[.box (ascL cut)]) false (fun _=>zq9 cut b) rfl .fn rfl (by decide) (by kernel_rfl) rfl (fun _=>.cons (.p rfl) (.cons (.c rfl) .nil)) (by decide) (fun _=>.box rfl (C0 (zP _)) .nil) (by simp)) ?_
 rintro F1 H1 ⟨_,_,_,_,⟨rfl,rfl⟩,hF,hH⟩
 rw[hq] at hF
 (refine NSU hF hH ?_;clear hF hH;rintro rfl rfl)
 refine WE ?_
 cases q with
 | true=>
  rw[if_pos rfl] at hr
  refine za rfl ?_
  refine ZR ?_
  refine WX1 ?_
  refine ZA (zF10 (i:=1) (j:=(r1.length+1)) rfl Tryz.underlying9 rfl (.inr ⟨_,_,_,rfl,rfl,rfl⟩) (.inl ⟨rfl,rfl⟩) (by first|(simp;done)|(simp;omega)) (by first|(simp;done)|(simp;omega))) ?_
  refine WE ?_
  refine wkg [some 0] (fun _=>[(0,.c (T r1)),(1,.p 0 0 0)]) (fun _=>[.box (ascL cut)]) (fun _=>?_) (hH:=fun _=>.box rfl (C0 (zP _)) .nil)
  exact⟨_,by rw[←hm,List.length_cons];exact Nat.lt_succ_self _,r1,rfl,hlr,hr,rfl,rfl⟩
 | false=>
  rw[if_neg (by simp)] at hr
  refine zd rfl ?_
  refine WA ?_
  exact zP2 [some 0] [.box (ascL cut)] rfl rfl rfl (by decide) (ZNK rfl) (fun _=>.box rfl (C0 (zP _)) .nil) ⟨by rw[←hr],rfl⟩
theorem zl10 (cut s:List UInt8) (h8:∀b∈cut,b < 128) (hc:2≤cut.length∧cut.length≤1000000) (hl:s.length≤1000000000):ACalls Tryz.prog 148 [.c (T s),.c (T cut)] [] fun u H=>u = .c (T (trB cut s))∧H = []:=by
 have hcn:¬cut = []:=fun e=>by rw[e] at hc;simp at hc
 refine zb (N:=43) Tryz.func148 rfl rfl (by simp) fun E hE=>?_
 by_cases hs:s = []
 ·subst hs
  refine WA ?_
  refine ZR ?_
  refine WX1 ?_
  refine ZA (zn3 (b:=[]) (decide_eq_true rfl) rfl Tryz.underlying9 rfl rfl) ?_
  iterate 2 refine WX1 ?_
  first|refine ZP (zn3 (b:=[]) (decide_eq_false hcn) rfl Tryz.underlying9 rfl rfl) ?_|refine ZS ?_
  refine WE ?_
  refine zd rfl ?_
  refine WA ?_
  exact arz (q:=⟨rfl,rfl⟩)
 refine WA ?_
 refine ZR ?_
 refine WX1 ?_
 refine ZA (zn3 (b:=[]) (decide_eq_false hs) rfl Tryz.underlying9 rfl rfl) ?_
 iterate 2 refine WX1 ?_
 first|refine ZP (zn3 (b:=[]) (decide_eq_false hcn) rfl Tryz.underlying9 rfl rfl) ?_|refine ZS ?_
 refine WE ?_
 refine za rfl ?_
 have hc1:¬(cut.length:Int)=1:=by omega
 refine WA ?_
 refine za rfl ?_
 refine WR ?_
 refine zf rfl (efk (c:=fun _=>zZ7 cut h8 (by omega))) ?_
 rintro _ _ ⟨_,_,_,⟨rfl,rfl⟩,hF,hH⟩
 generalize hAA:ascL cut=AA at hF
 (refine NST hF hH ?_;clear hF hH;rintro rfl rfl)
 subst hAA
 iterate 3 refine WX1 ?_
 refine zf rfl (zA6 (z:=.agg (List.replicate 256 (Value.bool false)).toArray) (vs:=List.replicate 256 (.bool false)) rfl rfl (by decide) (by kernel_rfl) rfl (by decide +kernel)) ?_
 rintro _ _ ⟨rfl,rfl⟩
 rw[zs9]
 refine zf rfl (zY3 (k:=256) (l':=ascL cut) rfl rfl rfl rfl rfl (by kernel_rfl) (zd1 cut) (by rw[zd1];exact Nat.le_refl _) (zr9 cut) (zt9 _ cut) rfl) ?_
 rintro _ _ ⟨rfl,rfl⟩
 refine WE ?_
 refine WA ?_
 refine zd rfl ?_
 have hl2:=trR_len (fun b=>cut.contains b) s
 refine WR ?_
 refine zf rfl (zP1 [0] (fun _=>[.box (ascL cut)]) false (fun _=>trimr_v cut s hl) rfl .fn rfl (by decide) (by kernel_rfl) rfl (fun _=>.cons (.c rfl) (.cons (.p rfl) .nil)) (by decide) (fun _=>.box rfl (C0 (zP _)) .nil) (by simp)) ?_
 rintro F1 H1 ⟨_,_,_,_,⟨rfl,rfl⟩,hF,hH⟩
 (refine NSU hF hH ?_;clear hF hH;rintro rfl rfl)
 refine zf rfl (zP1 [0] (fun _=>[.box (ascL cut)]) false (fun _=>triml_v cut _ (by omega)) rfl .fn rfl (by decide) (by kernel_rfl) rfl (fun _=>.cons (.c rfl) (.cons (.p rfl) .nil)) (by decide) (fun _=>.box rfl (C0 (zP _)) .nil) (by simp)) ?_
 rintro F1 H1 ⟨_,_,_,_,⟨rfl,rfl⟩,hF,hH⟩
 (refine NSU hF hH ?_;clear hF hH;rintro rfl rfl)
 refine WE ?_
 exact arz (q:=⟨rfl,rfl⟩)
end Go.Proofs.YtophoepbedlhjaaGreatDoor
-- NEWM
namespace Go.Proofs.YtophoepbedlhjaaGreatDoor
open Go Go.RowKit
set_option maxRecDepth 100000
def outB (n lo hi:Int):Bool:=decide (n < lo) || decide (hi < n)
theorem zV7 (n lo hi:Int):ACalls Tryz.prog 112 [.c (I n),.c (I lo),.c (I hi)] [] fun u H=>u = .c (B (outB n lo hi))∧H = []:=by
 refine zb (N:=15) Tryz.func112 rfl rfl (by simp) fun E hE=>?_
 by_cases h1:n < lo
 ·repeat' (first
   | refine ZY ?_
   | refine zu rfl (by assumption) ?_|refine zt rfl (by assumption) ?_|refine zl rfl (fun _=>?_) (fun _=>?_)|refine zh rfl (fun _=>?_) (fun _=>?_)
   | (refine ze ?_;refine WE ?_))
  exact arz (q:=⟨congrArg (fun z=>AV.c (B z)) (by simp[outB,h1]),rfl⟩)
 ·by_cases h2:hi < n
  ·repeat' (first
    | refine ZY ?_
    | refine zu rfl (by assumption) ?_|refine zt rfl (by assumption) ?_|refine zl rfl (fun _=>?_) (fun _=>?_)|refine zh rfl (fun _=>?_) (fun _=>?_)
    | (refine ze ?_;refine WE ?_))
   exact arz (q:=⟨congrArg (fun z=>AV.c (B z)) (by simp[outB,h2]),rfl⟩)
  ·repeat' (first
    | refine ZY ?_
    | refine zu rfl (by assumption) ?_|refine zt rfl (by assumption) ?_|refine zl rfl (fun _=>?_) (fun _=>?_)|refine zh rfl (fun _=>?_) (fun _=>?_)
    | (refine ze ?_;refine WE ?_))
   exact arz (q:=⟨congrArg (fun z=>AV.c (B z)) (by simp[outB,h1,h2]),rfl⟩)
def moB (n:Int):Bool:=!outB n 0 345686399999
theorem zq3 (n:Int):ACalls Tryz.prog 193 [.c (I n)] [] fun u H=>u = .c (B (moB n))∧H = []:=by
 refine zb (N:=6) Tryz.func193 rfl rfl (by simp) fun E hE=>?_
 repeat' (first
  | refine ZY ?_
  | refine zu rfl (by assumption) ?_|refine zt rfl (by assumption) ?_|refine zl rfl (fun _=>?_) (fun _=>?_)|refine zh rfl (fun _=>?_) (fun _=>?_)
  | (refine ze (id:=1) ?_
     refine WO ?_
     refine zf rfl (efk (c:=fun _=>zV7 _ _ _)) ?_
     rintro _ _ ⟨_,_,_,⟨rfl,rfl⟩,hF,hH⟩
     (refine NST hF hH ?_;clear hF hH;rintro rfl rfl)
     refine WE ?_)
  | (refine ze ?_;refine WE ?_))
 exact arz (q:=⟨rfl,rfl⟩)
theorem isl_v (l:List UInt8) (c:UInt8):ACalls Tryz.prog 288 [.c (T l),.c (.s (.int .u8 c.toNat))] [] fun u H=>u = .c (I (idxB c l 0))∧H = []:=by
 refine zb (N:=8) Tryz.func288 rfl rfl (by simp) fun E hE=>?_
 repeat' (first
  | refine ZY ?_
  | refine zu rfl (by assumption) ?_|refine zt rfl (by assumption) ?_|refine zl rfl (fun _=>?_) (fun _=>?_)|refine zh rfl (fun _=>?_) (fun _=>?_)
  | (refine ze (id:=1) ?_
     refine WO ?_
     refine ZA (rd_ext (us:=[.string (bst l),.int .u8 c.toNat]) rfl rfl (fun _ _=>rfl) Tryz.func349 (by decide +kernel) rfl rfl rfl (fun w=>run_indexByte_string _ _ w)) ?_
     refine WE ?_)
  | (refine ze ?_;refine WE ?_))
 exact arz (q:=⟨congrArg (fun z=>AV.c (I z)) (by first|exact zs5 l c|(simp;exact zs5 l c)),rfl⟩)
theorem sib_v (l:List UInt8) (c:UInt8):ACalls Tryz.prog 197 [.c (T l),.c (.s (.int .u8 c.toNat))] [] fun u H=>u = .c (I (idxB c l 0))∧H = []:=by
 refine zb (N:=8) Tryz.func197 rfl rfl (by simp) fun E hE=>?_
 repeat' (first
  | refine ZY ?_
  | refine zu rfl (by assumption) ?_|refine zt rfl (by assumption) ?_|refine zl rfl (fun _=>?_) (fun _=>?_)|refine zh rfl (fun _=>?_) (fun _=>?_)
  | (refine ze (id:=1) ?_
     refine WO ?_
     refine zf rfl (efk (c:=fun _=>isl_v l c)) ?_
     rintro _ _ ⟨_,_,_,⟨rfl,rfl⟩,hF,hH⟩
     (refine NST hF hH ?_;clear hF hH;rintro rfl rfl)
     refine WE ?_)
  | (refine ze ?_;refine WE ?_))
 exact arz (q:=⟨rfl,rfl⟩)
end Go.Proofs.YtophoepbedlhjaaGreatDoor
-- NEWM
namespace Go.Proofs.YtophoepbedlhjaaGreatDoor
open Go Go.RowKit
set_option maxRecDepth 100000
abbrev smallL:List UInt8:=[97,98,99,100,101,102,103,104,105,106,107,108,109,110,111,112,113,114,115,116,117,118,119,120,121,122]
abbrev keyL:List UInt8:=[97,98,99,100,101,102,103,104,105,106,107,108,109,110,111,112,113,114,115,116,117,118,119,120,121,122,48,49,50,51,52,53,54,55,56,57,45,95]
def keyB (s:List UInt8):Bool:=match s with
 | []=>false
 | b :: _=>decide (s.length≤40) && smallL.contains b && decide (trB keyL s = [])
theorem zV3 (b:UInt8) (r:List UInt8):keyB (b :: r)=(decide ((b :: r).length≤40) && smallL.contains b && decide (trB keyL (b :: r) = [])):=rfl
theorem zo2 {P:Program} {N:Nat} {E:Env} {F:Fm} {H:List OB} {o:Oper} {t yt:TypeId} {x y:Operand} {a b:List UInt8} {q:Bool} (h:decide (a≠b)=q) (ho:o.op = .binOp .neq t x y yt) (ht:P.underlying t=some .string) (hx:ev F x=some (.c (T a))) (hy:ev F y=some (.c (T b))):Rd P N E o F H (.c (B q)):=h▸zN7 ho ht hx hy
theorem zn4 (s:List UInt8) (hl:s.length≤1000000000):ACalls Tryz.prog 125 [.c (T s)] [] fun u H=>u = .c (B (keyB s))∧H = []:=by
 refine zb (N:=21) Tryz.func125 rfl rfl (by simp) fun E hE=>?_
 cases s with
 | nil=>
  repeat' (first
   | refine ZY ?_
   | refine zu rfl (by assumption) ?_|refine zt rfl (by assumption) ?_|refine zl rfl (fun _=>?_) (fun _=>?_)|refine zh rfl (fun _=>?_) (fun _=>?_)
   | (refine ze (id:=1) ?_
      refine WX1 ?_
      refine ZA (zo2 (b:=[]) (decide_eq_false (fun h=>h rfl)) rfl Tryz.underlying9 rfl rfl) ?_
      refine WO ?_
      first|refine ZS ?_|(refine G1 rfl ?_;refine zK11 rfl rfl (by decide) ZFALSE ?_)|skip
      refine WO ?_
      first|refine ZS ?_|(refine G1 rfl ?_;refine zK11 rfl rfl (by decide) ZFALSE ?_)|skip
      refine WE ?_)
   | (refine ze ?_;refine WE ?_))
  exact arz (q:=⟨rfl,rfl⟩)
 | cons b r=>
  have hne:decide ((b :: r)≠[])=true:=decide_eq_true (fun h=>by cases h)
  by_cases h40:(b :: r).length≤40
  ·have h40':((b :: r).length:Int)≤40:=by omega
   by_cases hs:0≤idxB b smallL 0
   ·have hm:=idxB_neg.1 hs
    obtain⟨q,hq⟩:∃q,decide (trB keyL (b :: r) = [])=q:=⟨_,rfl⟩
    repeat' (first
     | refine ZY ?_
     | refine zu rfl (by assumption) ?_|refine zt rfl (by assumption) ?_|refine zl rfl (fun _=>?_) (fun _=>?_)|refine zh rfl (fun _=>?_) (fun _=>?_)
     | (refine ze (id:=1) ?_
        refine WX1 ?_
        refine ZA (zo2 (b:=[]) hne rfl Tryz.underlying9 rfl rfl) ?_
        iterate 7 refine WX1 ?_
        first|refine ZP (zg4 (i:=0) rfl Tryz.underlying9 rfl rfl rfl rfl) ?_|refine ZS ?_
        first|refine ZS ?_|(refine G1 rfl ?_;refine zf rfl (efk (c:=fun _=>sib_v smallL b)) ?_;rintro _ _ ⟨_,_,_,⟨rfl,rfl⟩,hF,hH⟩;(refine NST hF hH ?_;clear hF hH;rintro rfl rfl))|skip
        refine WO ?_
        first|refine ZS ?_|(refine G1 rfl ?_;refine zf rfl (efk (c:=fun _=>zl10 keyL (b :: r) (by decide) (by decide) hl)) ?_;rintro _ _ ⟨_,_,_,⟨rfl,rfl⟩,hF,hH⟩;(refine NST hF hH ?_;clear hF hH;rintro rfl rfl))|skip
        first|refine ZP (zn3 (b:=[]) hq rfl Tryz.underlying9 rfl rfl) ?_|refine ZS ?_
        refine WE ?_)
     | (refine ze ?_;refine WE ?_))
    exact arz (q:=⟨congrArg (fun z=>AV.c (B z)) (by rw[zV3,hq,decide_eq_true h40,List.contains_iff_mem.2 hm];rfl),rfl⟩)
   ·have hm:smallL.contains b=false:=by
     rw[Bool.eq_false_iff]
     exact fun h=>hs (idxB_neg.2 (List.contains_iff_mem.1 h))
    repeat' (first
     | refine ZY ?_
     | refine zu rfl (by assumption) ?_|refine zt rfl (by assumption) ?_|refine zl rfl (fun _=>?_) (fun _=>?_)|refine zh rfl (fun _=>?_) (fun _=>?_)
     | (refine ze (id:=1) ?_
        refine WX1 ?_
        refine ZA (zo2 (b:=[]) hne rfl Tryz.underlying9 rfl rfl) ?_
        iterate 7 refine WX1 ?_
        first|refine ZP (zg4 (i:=0) rfl Tryz.underlying9 rfl rfl rfl rfl) ?_|refine ZS ?_
        first|refine ZS ?_|(refine G1 rfl ?_;refine zf rfl (efk (c:=fun _=>sib_v smallL b)) ?_;rintro _ _ ⟨_,_,_,⟨rfl,rfl⟩,hF,hH⟩;(refine NST hF hH ?_;clear hF hH;rintro rfl rfl))|skip
        refine WO ?_
        first|refine ZS ?_|(refine G1 rfl ?_;refine zf rfl (efk (c:=fun _=>zl10 keyL (b :: r) (by decide) (by decide) hl)) ?_;rintro _ _ ⟨_,_,_,⟨rfl,rfl⟩,hF,hH⟩;(refine NST hF hH ?_;clear hF hH;rintro rfl rfl))|skip
        refine WE ?_)
     | (refine ze ?_;refine WE ?_))
    exact arz (q:=⟨congrArg (fun z=>AV.c (B z)) (by rw[zV3,hm];simp),rfl⟩)
  ·have h40':¬((b :: r).length:Int)≤40:=by omega
   repeat' (first
    | refine ZY ?_
    | refine zu rfl (by assumption) ?_|refine zt rfl (by assumption) ?_|refine zl rfl (fun _=>?_) (fun _=>?_)|refine zh rfl (fun _=>?_) (fun _=>?_)
    | (refine ze (id:=1) ?_
       refine WX1 ?_
       refine ZA (zo2 (b:=[]) hne rfl Tryz.underlying9 rfl rfl) ?_
       refine WO ?_
       first|refine ZS ?_|(refine G1 rfl ?_;refine zf rfl (efk (c:=fun _=>sib_v smallL b)) ?_;rintro _ _ ⟨_,_,_,⟨rfl,rfl⟩,hF,hH⟩;(refine NST hF hH ?_;clear hF hH;rintro rfl rfl))|skip
       refine WO ?_
       first|refine ZS ?_|(refine G1 rfl ?_;refine zf rfl (efk (c:=fun _=>zl10 keyL (b :: r) (by decide) (by decide) hl)) ?_;rintro _ _ ⟨_,_,_,⟨rfl,rfl⟩,hF,hH⟩;(refine NST hF hH ?_;clear hF hH;rintro rfl rfl))|skip
       refine WE ?_)
    | (refine ze ?_;refine WE ?_))
   exact arz (q:=⟨congrArg (fun z=>AV.c (B z)) (by rw[zV3,decide_eq_false h40];rfl),rfl⟩)
end Go.Proofs.YtophoepbedlhjaaGreatDoor
