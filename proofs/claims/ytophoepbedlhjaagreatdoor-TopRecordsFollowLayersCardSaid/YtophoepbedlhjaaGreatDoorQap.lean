/- The stream of raw numbers, in the logic over values: each of its functions gives some value within its range and moves its counter on. -/
import Derived.Test.YtophoepbedlhjaaGreatDoorQao
set_option linter.unusedSimpArgs false
set_option linter.unusedVariables false
namespace Go.Proofs.YtophoepbedlhjaaGreatDoor
open Go Go.RowKit
set_option maxRecDepth 100000
abbrev I (n:Int):CV:=.s (.int .i64 n)
abbrev B (b:Bool):CV:=.s (.bool b)
def in64 (n:Int):Prop:=-9223372036854775808≤n∧n≤9223372036854775807
def belowF (x n:Int):Int:=if n < 1 then 0 else if Int.tmod x n < 0 then wrap64 (Int.tmod x n+n) else Int.tmod x n
theorem zI4 (x n:Int) (hn:in64 n):0≤belowF x n∧(1≤n→belowF x n < n):=by
 unfold belowF
 by_cases h:n < 1
 ·rw[if_pos h];omega
 ·rw[if_neg h]
  have hl:Int.tmod x n < n:=Int.tmod_lt_of_pos x (by omega)
  have hg:-n < Int.tmod x n:=Int.lt_tmod_of_pos x (by omega)
  unfold in64 at hn
  split
  ·rw[IntWalk.wrap64_in _ (by constructor <;> omega)];omega
  ·omega
theorem zr8 (x n:Int):ACalls Tryz.prog 114 [.c (I x),.c (I n)] [] fun u H=>u = .c (I (belowF x n))∧H = []:=by
 refine zb (N:=16) Tryz.func114 rfl rfl (by simp) fun E hE=>?_
 repeat' (first
  | refine ZY ?_
  | refine zu rfl (by assumption) ?_|refine zt rfl (by assumption) ?_|refine zl rfl (fun _=>?_) (fun _=>?_)|refine zh rfl (fun _=>?_) (fun _=>?_)
  | (refine ze ?_;refine WE ?_))
 all_goals (refine arz (q:=?_))
 all_goals (refine⟨congrArg (fun z=>AV.c (I z)) ?_,rfl⟩;unfold belowF;simp[*];try omega)
abbrev strm (v:Value) (zs:List Int) (a:Int):OB:=.box [.c (.r v (zs.map fun z=>[I z])),.c (I a)]
theorem zo1 {K:CV→Prop} {v:Value} {zs:List Int} {a:Int} (h:K (.r v (zs.map fun z=>[I z]))):∀o∈[strm v zs a],FlatO K o:=fun o ho=>by
 rw[List.mem_singleton.1 ho]
 intro x hx
 simp only[List.mem_cons,List.not_mem_nil,or_false] at hx
 rcases hx with rfl|rfl
 ·exact .c (.inr h)
 ·exact .c (.inl trivial)
structure StrOk (zs:List Int):Prop where
 ok:∀z∈zs,in64 z
 len:zs.length≤9223372036854775807
theorem zl5 (n:Int) (v:Value) (zs:List Int) (a:Int) (hs:StrOk zs) (h0:0≤a) (h1:a≤1000000000) (hn:in64 n) :
    ACalls Tryz.prog 50 [.p 0 0 0,.c (I n)] [strm v zs a] fun u H=>∃r:Int,u = .c (I r)∧H = [strm v zs (a+1)]∧0≤r∧(1≤n→r < n):=by
 refine zb (N:=64) Tryz.func50 rfl rfl (by simp) fun E hE=>?_
 unfold in64 at hn
 have hl:=hs.len
 by_cases he:zs.length=0
 ·have h00:zs = []:=List.eq_nil_of_length_eq_zero he
  subst h00
  repeat' (first
   | refine ZY ?_
   | refine zu rfl (by assumption) ?_|refine zt rfl (by assumption) ?_|refine zl rfl (fun _=>?_) (fun _=>?_)|refine zh rfl (fun _=>?_) (fun _=>?_)
   | (refine ze (id:=3) ?_
      refine WO ?_
      refine zf rfl (zn false (fun _=>zr8 _ _) rfl .fn rfl (by decide) (by kernel_rfl) rfl (fun _g=>.cons (.c rfl) (.cons (.c rfl) .nil)) (by simp)) ?_
      rintro _ _ ⟨_,_,_,⟨rfl,rfl⟩,rfl,rfl⟩
      refine WE ?_)
   | (refine zc (id:=4) [(0,none),(1,none),(2,none),(3,none),(4,none),(5,none),(6,none),(7,none),(8,none),(9,none),(10,none),(11,none)] zo (by kernel_rfl) ?_
      refine WQ ?_)
   | (refine zc (id:=5) [(0,none),(1,none),(2,none),(3,none),(4,none),(5,none),(6,none),(7,none),(8,none),(9,none),(10,none),(11,none)] zo (by kernel_rfl) ?_
      refine WQ ?_)
   | (refine ze ?_;refine WE ?_))
  all_goals (refine zP2 [some 0] _ rfl rfl rfl (by decide) (ZNK rfl) ZCH ?_)
  all_goals exact⟨_,rfl,rfl,zI4 _ n hn⟩
 ·have hp:0 < zs.length:=by omega
  refine WA ?_
  refine WA ?_
  refine WA ?_
  refine zt rfl (by simpa using he) ?_
  have e1:(zs.map fun z=>[I z]).length=zs.length:=by simp
  have hq:((zs.map fun z=>[I z]).length:Int)=zs.length:=by rw[e1]
  have hmod:0≤a % (zs.length:Int):=Int.emod_nonneg _ (by omega)
  have hmod2:a % (zs.length:Int) < zs.length:=Int.emod_lt_of_pos _ (by omega)
  refine ZZ ?_
  refine zc [(0,none),(1,none),(2,none),(3,none),(4,none),(5,none),(6,none),(7,none),(8,none),(9,none),(10,none),(11,none)] zo (by kernel_rfl) ?_
  refine WQ ?_
  refine ZZ ?_
  refine zc [(0,none),(1,none),(2,none),(3,none),(4,none),(5,none),(6,none),(7,none),(8,none),(9,none),(10,none),(11,none)] zo (by kernel_rfl) ?_
  refine WQ ?_
  obtain⟨i,hi⟩:∃i:Nat,a % (zs.length:Int)=i:=⟨(a % (zs.length:Int)).toNat,by omega⟩
  have hk:i < zs.length:=by omega
  obtain⟨z,hz0⟩:∃z,zs[i]?=some z:=⟨_,List.getElem?_eq_getElem hk⟩
  have hrow:(zs.map fun z=>[I z])[i]?=some [I z]:=by rw[List.getElem?_map,hz0];rfl
  refine ZR ?_
  iterate 5 refine WX1 ?_
  refine ZA (zh3 rfl (KE (t:=22) rfl) rfl rfl (i:=i) (by rw[e1,show a+1 - 1=a from by omega];exact hi) hrow rfl) ?_
  refine WO ?_
  refine zf rfl (zn false (fun _=>zr8 _ _) rfl .fn rfl (by decide) (by kernel_rfl) rfl (fun _g=>.cons (.c rfl) (.cons (.c rfl) .nil)) (by simp)) ?_
  rintro _ _ ⟨_,_,_,⟨rfl,rfl⟩,rfl,rfl⟩
  refine WO ?_
  refine zf rfl (zn false (fun _=>zr8 _ _) rfl .fn rfl (by decide) (by kernel_rfl) rfl (fun _g=>.cons (.c rfl) (.cons (.c rfl) .nil)) (by simp)) ?_
  rintro _ _ ⟨_,_,_,⟨rfl,rfl⟩,rfl,rfl⟩
  refine WE ?_
  all_goals (refine zP2 [some 0] _ rfl rfl rfl (by decide) (ZNK rfl) ZCH ?_)
  all_goals exact⟨_,rfl,rfl,zI4 _ n hn⟩
theorem zt7 (n:Int) (v:Value) (zs:List Int) (a:Int) (hs:StrOk zs) (h0:0≤a) (h1:a≤1000000000) (hn:in64 n) :
    ACalls Tryz.prog 59 [.p 0 0 0,.c (I n)] [strm v zs a] fun u H=>∃b:Bool,u = .c (B b)∧H = [strm v zs (a+1)]:=by
 unfold in64 at hn
 refine zb (N:=9) Tryz.func59 rfl rfl (by simp) fun E hE=>?_
 repeat' (first
  | refine ZY ?_
  | refine zu rfl (by assumption) ?_|refine zt rfl (by assumption) ?_|refine zl rfl (fun _=>?_) (fun _=>?_)|refine zh rfl (fun _=>?_) (fun _=>?_)
  | (refine ze (id:=1) ?_
     refine WO ?_
     refine zf rfl (efm (c:=fun _=>zl5 _ _ _ _ hs (by omega) (by omega) (by simp only[in64];omega))) ?_
     rintro F1 H1 ⟨_,_,_,_,⟨r,rfl,hq,hr1,hr2⟩,hF,hH⟩
     cases hq
     (refine NST hF hH ?_;clear hF hH;rintro rfl rfl)
     refine WE ?_)
  | (refine ze ?_;refine WE ?_))
 all_goals (refine zP2 [some 0] _ rfl rfl rfl (by decide) (ZNK rfl) ZCH ?_)
 all_goals exact⟨_,rfl,rfl⟩
theorem zl6 (lo hi:Int) (v:Value) (zs:List Int) (a:Int) (hs:StrOk zs) (h0:0≤a) (h1:a≤1000000000) (h2:-4000000000000000000≤lo) (h3:lo≤4000000000000000000) (h4:-4000000000000000000≤hi) (h5:hi≤4000000000000000000) :
    ACalls Tryz.prog 8 [.p 0 0 0,.c (I lo),.c (I hi)] [strm v zs a] fun u H=>∃r a',u = .c (I r)∧H = [strm v zs a']∧a≤a'∧a'≤a+1∧lo≤r∧(lo≤hi→r≤hi)∧(hi < lo→r=lo):=by
 refine zb (N:=19) Tryz.func8 rfl rfl (by simp) fun E hE=>?_
 repeat' (first
  | refine ZY ?_
  | refine zu rfl (by assumption) ?_|refine zt rfl (by assumption) ?_|refine zl rfl (fun _=>?_) (fun _=>?_)|refine zh rfl (fun _=>?_) (fun _=>?_)
  | (refine ze (id:=3) ?_
     refine WO ?_
     refine zf rfl (efm (c:=fun _=>zl5 _ _ _ _ hs (by omega) (by omega) (by simp only[in64];omega))) ?_
     rintro F1 H1 ⟨_,_,_,_,⟨r,rfl,hq,hr1,hr2⟩,hF,hH⟩
     cases hq
     (refine NST hF hH ?_;clear hF hH;rintro rfl rfl)
     refine WE ?_)
  | (refine ze ?_;refine WE ?_))
 all_goals (refine zP2 [some 0] _ rfl rfl rfl (by decide) (ZNK rfl) ZCH ?_)
 all_goals exact⟨_,_,rfl,rfl,by omega,by omega,by omega,by omega,by omega⟩
theorem zP3 (vals:List Int) (q v:Value) (zs:List Int) (a:Int) (hs:StrOk zs) (h0:0≤a) (h1:a≤1000000000) (hv:vals≠[]) (hl:vals.length≤1000000) :
    ACalls Tryz.prog 19 [.p 0 0 0,.c (.r q (vals.map fun z=>[I z]))] [strm v zs a] fun u H=>∃r,u = .c (I r)∧H = [strm v zs (a+1)]∧r∈vals:=by
 have hp:0 < vals.length:=List.length_pos_iff.2 hv
 have e1:(vals.map fun z=>[I z]).length=vals.length:=by simp
 refine zb (N:=12) Tryz.func19 rfl rfl (by simp) fun E hE=>?_
 refine WA ?_
 refine WR ?_
 refine zf rfl (efm (c:=fun _=>zl5 _ _ _ _ hs (by omega) (by omega) (by simp only[in64];omega))) ?_
 rintro F1 H1 ⟨_,_,_,_,⟨r,rfl,hq,hr1,hr2⟩,hF,hH⟩
 cases hq
 (refine NST hF hH ?_;clear hF hH;rintro rfl rfl)
 obtain⟨i,rfl⟩:∃i:Nat,r=i:=⟨r.toNat,by omega⟩
 have hk:i < vals.length:=by have:=hr2 (by rw[e1];omega);rw[e1] at this;omega
 obtain⟨z,hz0⟩:∃z,vals[i]?=some z:=⟨_,List.getElem?_eq_getElem hk⟩
 have hrow:(vals.map fun z=>[I z])[i]?=some [I z]:=by rw[List.getElem?_map,hz0];rfl
 refine ZA (zh3 rfl (KE (t:=22) rfl) rfl rfl (i:=i) rfl hrow rfl) ?_
 refine WE ?_
 refine zP2 [some 0] _ rfl rfl rfl (by decide) (ZNK rfl) ZCH ?_
 exact⟨_,rfl,rfl,List.mem_of_getElem? hz0⟩
theorem z64:in64 0:=by unfold in64;omega
end Go.Proofs.YtophoepbedlhjaaGreatDoor
