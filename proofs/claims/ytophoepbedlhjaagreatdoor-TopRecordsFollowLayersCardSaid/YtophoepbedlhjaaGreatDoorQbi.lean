/- Normals and corners of the reference, sides, heights of a face, by value. -/
import Derived.Test.YtophoepbedlhjaaGreatDoorQbh
import Derived.Test.YtophoepbedlhjaaGreatDoorQap
import Derived.Test.YtophoepbedlhjaaGreatDoorQas
set_option linter.unusedSimpArgs false
set_option linter.unusedVariables false
namespace Go.Proofs.YtophoepbedlhjaaGreatDoor
structure Vec3 where
 x:Int
 y:Int
 z:Int
deriving DecidableEq
structure Fac3 where
 a:Int
 b:Int
 c:Int
deriving DecidableEq
structure Sid2 where
 f:Int
 t:Int
deriving DecidableEq
def vx (V:List Vec3) (i:Int):Vec3:=V.getD i.toNat ⟨0,0,0⟩
def sub3 (a b:Vec3):Vec3:=⟨a.x - b.x,a.y - b.y,a.z - b.z⟩
def crs (a b:Vec3):Vec3:=⟨a.y*b.z - a.z*b.y,a.z*b.x - a.x*b.z,a.x*b.y - a.y*b.x⟩
def nrm (V:List Vec3) (f:Fac3):Vec3:=crs (sub3 (vx V f.b) (vx V f.a)) (sub3 (vx V f.c) (vx V f.a))
def farI (n:Int):Bool:=decide (n < -100000) || decide (100000 < n)
def farV (v:Vec3):Bool:=farI v.x || farI v.y || farI v.z
def outI (V:List Vec3) (i:Int):Bool:=decide (i < 0) || decide ((V.length:Int)≤i)
def ffR (V:List Vec3) (f:Fac3):Int:=if (outI V f.a || outI V f.b || outI V f.c)=true then 8 else if nrm V f=⟨0,0,0⟩ then 3 else 0
def ffP (V:List Vec3) (f:Fac3):Int:=if (outI V f.a || outI V f.b || outI V f.c)=true then 8 else if f.a=f.b∨f.b=f.c∨f.c=f.a∨nrm V f=⟨0,0,0⟩ then 3 else 0
theorem zf7 (a b:Int):a*b - b*a=0:=by rw[Int.mul_comm];omega
theorem ffP_R (V:List Vec3) (f:Fac3):ffP V f=ffR V f:=by
 unfold ffP ffR
 split
 ·rfl
 ·have h:(f.a=f.b∨f.b=f.c∨f.c=f.a∨nrm V f=⟨0,0,0⟩)↔nrm V f=⟨0,0,0⟩:=by
   refine⟨fun h=>?_,fun h=>.inr (.inr (.inr h))⟩
   rcases h with h|h|h|h
   ·simp only[nrm,sub3,crs,h,Int.sub_self,Int.zero_mul,Int.mul_zero]
   ·simp only[nrm,sub3,crs,h,zf7]
   ·simp only[nrm,sub3,crs,h,Int.sub_self,Int.zero_mul,Int.mul_zero]
   ·exact h
  simp only[h]
def sds (f:Fac3):List Sid2:=[⟨f.a,f.b⟩,⟨f.b,f.c⟩,⟨f.c,f.a⟩]
def dupS:List Sid2→List Sid2→Bool
 | _,[]=>false
 | acc,s :: l=>acc.contains s || dupS (acc++[s]) l
def fst0:List Int→Int
 | []=>0
 | e :: l=>if e=0 then fst0 l else e
def mshF (V:List Vec3) (F:List Fac3):Int:=
 if F = [] then 8 else if 1000 < V.length∨1000 < F.length then 2 else if V.any farV=true then 1 else
 if fst0 (F.map (ffR V))≠0 then fst0 (F.map (ffR V)) else if dupS [] (F.flatMap sds)=true then 6 else 0
theorem zu6:∀(a b:List Int),fst0 (a++b)=if fst0 a=0 then fst0 b else fst0 a
 | [],b=>by simp[fst0]
 | e :: a,b=>by
  simp only[List.cons_append,fst0]
  split
  ·exact zu6 a b
  ·rename_i h;simp[h]
theorem zq7:∀{l:List Int},fst0 l=0→∀e∈l,e=0
 | [],_,e,h=>by cases h
 | x :: l,h,e,he=>by
  unfold fst0 at h
  split at h
  ·rcases List.mem_cons.1 he with rfl|he
   ·assumption
   ·exact zq7 h e he
  ·contradiction
structure MOk (V:List Vec3) (F:List Fac3):Prop where
 ne:F≠[]
 lv:V.length≤1000
 lf:F.length≤1000
 far:∀v∈V,farV v=false
 face:∀f∈F,ffR V f=0
 dup:dupS [] (F.flatMap sds)=false
theorem mok_of {V:List Vec3} {F:List Fac3} (h:mshF V F=0):MOk V F:=by
 unfold mshF at h
 split at h
 ·cases h
 ·rename_i h1
  split at h
  ·cases h
  ·rename_i h2
   split at h
   ·cases h
   ·rename_i h3
    split at h
    ·rename_i h4;exact absurd h h4
    ·rename_i h4
     split at h
     ·cases h
     ·rename_i h5
      have h4':fst0 (F.map (ffR V))=0:=by omega
      refine⟨h1,by omega,by omega,fun v hv=>?_,fun f hf=>zq7 h4' _ (List.mem_map.2 ⟨f,hf,rfl⟩),by simpa using h5⟩
      cases hq:farV v with
      | false=>rfl
      | true=>exact absurd (List.any_eq_true.2 ⟨v,hv,hq⟩) h3
theorem MOk.ix {V:List Vec3} {F:List Fac3} (h:MOk V F) {f:Fac3} (hf:f∈F):(0≤f.a∧f.a < V.length)∧(0≤f.b∧f.b < V.length)∧(0≤f.c∧f.c < V.length):=by
 have h1:=h.face f hf
 unfold ffR at h1
 split at h1
 ·cases h1
 ·rename_i h2
  simp only[outI,Bool.or_eq_true,decide_eq_true_eq] at h2
  omega
theorem vx_mem {V:List Vec3} {i:Int} (h0:0≤i) (h:i < V.length):vx V i∈V:=by
 unfold vx
 have h1:i.toNat < V.length:=by omega
 rw[List.getD_eq_getElem?_getD,List.getElem?_eq_getElem h1]
 exact List.getElem_mem h1
theorem MOk.near {V:List Vec3} {F:List Fac3} (h:MOk V F) {i:Int} (h0:0≤i) (hi:i < V.length):(-100000≤(vx V i).x∧(vx V i).x≤100000)∧(-100000≤(vx V i).y∧(vx V i).y≤100000)∧(-100000≤(vx V i).z∧(vx V i).z≤100000):=by
 have:=h.far _ (vx_mem h0 hi)
 simp only[farV,farI,Bool.or_eq_false_iff,decide_eq_false_iff_not] at this
 omega
def minL:List Int→Int
 | []=>0
 | [x]=>x
 | x :: y :: l=>min x (minL (y :: l))
def maxL:List Int→Int
 | []=>0
 | [x]=>x
 | x :: y :: l=>max x (maxL (y :: l))
theorem zn6:∀{l:List Int} {x:Int},x∈l→minL l≤x
 | [y],x,h=>by rw[List.mem_singleton.1 h];exact Int.le_refl _
 | y :: z :: l,x,h=>by
  unfold minL
  rcases List.mem_cons.1 h with rfl|h
  ·omega
  ·have:=zn6 h;omega
theorem zp6:∀{l:List Int} {x:Int},x∈l→x≤maxL l
 | [y],x,h=>by rw[List.mem_singleton.1 h];exact Int.le_refl _
 | y :: z :: l,x,h=>by
  unfold maxL
  rcases List.mem_cons.1 h with rfl|h
  ·omega
  ·have:=zp6 h;omega
theorem zo3:∀{l:List Int},l≠[]→minL l∈l
 | [y],_=>by simp[minL]
 | y :: z :: l,_=>by
  have:=zo3 (l:=z :: l) (by simp)
  unfold minL
  rcases Int.le_total y (minL (z :: l)) with h|h
  ·rw[show min y (minL (z :: l))=y by omega];exact List.mem_cons_self
  ·rw[show min y (minL (z :: l))=minL (z :: l) by omega];exact List.mem_cons_of_mem _ this
theorem zS3:∀{l:List Int},l≠[]→maxL l∈l
 | [y],_=>by simp[maxL]
 | y :: z :: l,_=>by
  have:=zS3 (l:=z :: l) (by simp)
  unfold maxL
  rcases Int.le_total y (maxL (z :: l)) with h|h
  ·rw[show max y (maxL (z :: l))=maxL (z :: l) by omega];exact List.mem_cons_of_mem _ this
  ·rw[show max y (maxL (z :: l))=y by omega];exact List.mem_cons_self
theorem zV10 {l:List Int} {m:Int} (h:m∈l) (hm:∀x∈l,m≤x):minL l=m:=by
 have h1:=zn6 h
 have h2:=hm _ (zo3 (fun e=>by rw[e] at h;cases h))
 omega
theorem zY10 {l:List Int} {m:Int} (h:m∈l) (hm:∀x∈l,x≤m):maxL l=m:=by
 have h1:=zp6 h
 have h2:=hm _ (zS3 (fun e=>by rw[e] at h;cases h))
 omega
def fzs (V:List Vec3) (f:Fac3):List Int:=[(vx V f.a).z,(vx V f.b).z,(vx V f.c).z]
def zs (V:List Vec3) (F:List Fac3):List Int:=F.flatMap (fzs V)
theorem zc10 {V:List Vec3} {F:List Fac3} (h:F≠[]):zs V F≠[]:=by
 cases F with
 | nil=>exact absurd rfl h
 | cons f F=>simp[zs,fzs]
theorem zb10 {V:List Vec3} {F:List Fac3} (h:MOk V F):∀x∈zs V F,-100000≤x∧x≤100000:=fun x hx=>by
 obtain⟨f,hf,hx⟩:=List.mem_flatMap.1 hx
 obtain⟨h1,h2,h3⟩:=h.ix hf
 have n1:=(h.near h1.1 h1.2).2.2
 have n2:=(h.near h2.1 h2.2).2.2
 have n3:=(h.near h3.1 h3.2).2.2
 simp only[fzs,List.mem_cons,List.not_mem_nil,or_false] at hx
 rcases hx with rfl|rfl|rfl
 ·exact n1
 ·exact n2
 ·exact n3
def loZ (V:List Vec3) (F:List Fac3):Int:=minL (zs V F)
def hiZ (V:List Vec3) (F:List Fac3):Int:=maxL (zs V F)
theorem lo_near {V:List Vec3} {F:List Fac3} (h:MOk V F):-100000≤loZ V F∧loZ V F≤100000:=zb10 h _ (zo3 (zc10 h.ne))
theorem hi_near {V:List Vec3} {F:List Fac3} (h:MOk V F):-100000≤hiZ V F∧hiZ V F≤100000:=zb10 h _ (zS3 (zc10 h.ne))
theorem zB6:∀(a b acc:List Sid2),dupS acc (a++b)=(dupS acc a || dupS (acc++a) b)
 | [],b,acc=>by simp[dupS]
 | s :: a,b,acc=>by
  simp only[List.cons_append,dupS]
  rw[zB6 a b (acc++[s]),Bool.or_assoc,List.append_assoc]
  rfl
theorem zw7 {l:List Sid2} {s:Sid2} (h:dupS [] l=false):dupS [] (l++[s])=l.contains s:=by
 rw[zB6,h];simp[dupS]
theorem zk9 {l r:List Sid2} {s:Sid2} (h:l.contains s=true):dupS [] (l++s :: r)=true:=by
 rw[zB6,List.nil_append]
 simp only[dupS,h,Bool.true_or,Bool.or_true]
theorem zM8 {F:List Fac3} {k:Nat} {f:Fac3} (h:F[k]?=some f) (j:Nat):F.flatMap sds=(F.take k).flatMap sds++(sds f).take j++((sds f).drop j++(F.drop (k+1)).flatMap sds):=by
 have hk:k < F.length:=by
  rcases Nat.lt_or_ge k F.length with h'|h'
  ·exact h'
  ·rw[List.getElem?_eq_none h'] at h;cases h
 have e:F=F.take k++f :: F.drop (k+1):=by
  rw[List.getElem?_eq_getElem hk] at h
  injection h with h
  rw[←h,List.getElem_cons_drop,List.take_append_drop]
 conv=>lhs;rw[e]
 rw[List.flatMap_append,List.flatMap_cons,List.append_assoc,←List.append_assoc (List.take j (sds f)),List.take_append_drop]
theorem zK7 {F:List Fac3} {k:Nat} {f:Fac3} (h:F[k]?=some f):(F.take (k+1)).flatMap sds=(F.take k).flatMap sds++sds f:=by
 rw[List.take_add_one,h,List.flatMap_append];simp
theorem zj11 {l:List Int} {k:Nat} {e:Int} (h0:fst0 (l.take k)=0) (h:l[k]?=some e) (he:e≠0):fst0 l=e:=by
 have hk:k < l.length:=by
  rcases Nat.lt_or_ge k l.length with h'|h'
  ·exact h'
  ·rw[List.getElem?_eq_none h'] at h;cases h
 rw[List.getElem?_eq_getElem hk] at h
 injection h with h
 conv=>lhs;rw[←List.take_append_drop k l,←List.getElem_cons_drop (h:=hk),h]
 rw[zu6,if_pos h0,fst0,if_neg he]
theorem zr7 {l:List Int} {k:Nat} {e:Int} (h0:fst0 (l.take k)=0) (h:l[k]?=some e) (he:e=0):fst0 (l.take (k+1))=0:=by
 rw[List.take_add_one,h,zu6,if_pos h0];simp[fst0,he]
def usedI (F:List Fac3) (i:Nat):Bool:=F.any fun f=>decide (f.a=i) || decide (f.b=i) || decide (f.c=i)
theorem zs_used {V:List Vec3} {F:List Fac3} (h:MOk V F) {x:Int}:x∈zs V F↔∃i:Nat,i < V.length∧usedI F i=true∧x=(vx V i).z:=by
 constructor
 ·intro hx
  obtain⟨f,hf,hx⟩:=List.mem_flatMap.1 hx
  obtain⟨h1,h2,h3⟩:=h.ix hf
  have key:∀q:Int,0≤q→q < V.length→(q=f.a∨q=f.b∨q=f.c)→x=(vx V q).z→∃i:Nat,i < V.length∧usedI F i=true∧x=(vx V i).z:=fun q q0 q1 hq e=>by
   refine⟨q.toNat,by omega,List.any_eq_true.2 ⟨f,hf, ?_⟩,by rw[show ((q.toNat:Nat):Int)=q by omega];exact e⟩
   simp only[Bool.or_eq_true,decide_eq_true_eq]
   omega
  simp only[fzs,List.mem_cons,List.not_mem_nil,or_false] at hx
  rcases hx with e|e|e
  ·exact key _ h1.1 h1.2 (.inl rfl) e
  ·exact key _ h2.1 h2.2 (.inr (.inl rfl)) e
  ·exact key _ h3.1 h3.2 (.inr (.inr rfl)) e
 ·rintro⟨i,hi,hu,rfl⟩
  obtain⟨f,hf,hu⟩:=List.any_eq_true.1 hu
  refine List.mem_flatMap.2 ⟨f,hf, ?_⟩
  simp only[Bool.or_eq_true,decide_eq_true_eq] at hu
  simp only[fzs,List.mem_cons,List.not_mem_nil,or_false]
  rcases hu with(e|e)|e
  ·left;rw[e]
  ·right;left;rw[e]
  ·right;right;rw[e]
theorem zw9 {F:List Fac3} {k:Nat} {f:Fac3} (h:F[k]?=some f) (i:Nat):usedI (F.take (k+1)) i=(usedI (F.take k) i || (decide (f.a=i) || decide (f.b=i) || decide (f.c=i))):=by
 unfold usedI
 rw[List.take_add_one,h,List.any_append];simp
def uzs (V:List Vec3) (F:List Fac3) (k:Nat):List Int:=((List.range k).filter (usedI F)).map fun(i:Nat)=>(vx V i).z
theorem uzs_next (V:List Vec3) (F:List Fac3) (k:Nat):uzs V F (k+1)=if usedI F k=true then uzs V F k++[(vx V k).z] else uzs V F k:=by
 unfold uzs
 rw[List.range_succ,List.filter_append,List.map_append]
 split
 ·rename_i h;simp[h]
 ·rename_i h;simp[h]
theorem zU10 {l:List Int} {x:Int} (h:l≠[]):minL (l++[x])=min (minL l) x:=by
 refine zV10 ?_ fun y hy=>?_
 ·rcases Int.le_total (minL l) x with h1|h1
  ·rw[show min (minL l) x=minL l by omega];exact List.mem_append_left _ (zo3 h)
  ·rw[show min (minL l) x=x by omega];simp
 ·rcases List.mem_append.1 hy with hy|hy
  ·have:=zn6 hy;omega
  ·rw[List.mem_singleton.1 hy];omega
theorem zX10 {l:List Int} {x:Int} (h:l≠[]):maxL (l++[x])=max (maxL l) x:=by
 refine zY10 ?_ fun y hy=>?_
 ·rcases Int.le_total (maxL l) x with h1|h1
  ·rw[show max (maxL l) x=x by omega];simp
  ·rw[show max (maxL l) x=maxL l by omega];exact List.mem_append_left _ (zS3 h)
 ·rcases List.mem_append.1 hy with hy|hy
  ·have:=zp6 hy;omega
  ·rw[List.mem_singleton.1 hy];omega
theorem uzs_box {V:List Vec3} {F:List Fac3} (h:MOk V F):uzs V F V.length≠[]∧minL (uzs V F V.length)=loZ V F∧maxL (uzs V F V.length)=hiZ V F:=by
 have hm:∀x,x∈uzs V F V.length↔x∈zs V F:=fun x=>by
  rw[zs_used h]
  unfold uzs
  simp only[List.mem_map,List.mem_filter,List.mem_range]
  constructor
  ·rintro⟨i,⟨h1,h2⟩,rfl⟩;exact⟨i,h1,h2,rfl⟩
  ·rintro⟨i,h1,h2,rfl⟩;exact⟨i,⟨h1,h2⟩,rfl⟩
 have hne:uzs V F V.length≠[]:=fun e=>by
  have:=(hm _).2 (zo3 (zc10 h.ne))
  rw[e] at this;cases this
 exact⟨hne,zV10 ((hm _).2 (zo3 (zc10 h.ne))) fun x hx=>zn6 ((hm x).1 hx),zY10 ((hm _).2 (zS3 (zc10 h.ne))) fun x hx=>zp6 ((hm x).1 hx)⟩
def hsN (lo hi first step:Int):Nat:=if lo+first < hi then ((hi - lo - first - 1) / step).toNat+1 else 0
def hsL (lo hi first step:Int):List Int:=(List.range (hsN lo hi first step)).map fun(k:Nat)=>lo+first+(k:Int)*step
theorem zd11 (lo hi first step:Int):(hsL lo hi first step).length=hsN lo hi first step:=by simp[hsL]
theorem hs_more {lo hi first step:Int} (hs:1≤step) (k:Nat):lo+first+(k:Int)*step < hi↔k < hsN lo hi first step:=by
 unfold hsN
 have hk:0≤(k:Int)*step:=Int.mul_nonneg (by omega) (by omega)
 split
 ·rename_i h
  have h1:0≤(hi - lo - first - 1) / step:=Int.ediv_nonneg (by omega) (by omega)
  have h2:(k:Int)≤(hi - lo - first - 1) / step↔(k:Int)*step≤hi - lo - first - 1:=Int.le_ediv_iff_mul_le (by omega)
  omega
 ·omega
theorem hs_take {lo hi first step:Int} (k:Nat) (h:k < hsN lo hi first step):(hsL lo hi first step).take (k+1)=(hsL lo hi first step).take k++[lo+first+(k:Int)*step]:=by
 rw[List.take_add_one]
 congr 1
 simp[hsL,h]
theorem hs_all {lo hi first step:Int} {k:Nat} (h:hsN lo hi first step≤k):(hsL lo hi first step).take k=hsL lo hi first step:=List.take_of_length_le (by rw[zd11];exact h)
theorem hsN_le {lo hi first step:Int} (hs:1≤step) (hf:1≤first) (h0:-100000≤lo) (h1:hi≤100000):hsN lo hi first step≤200000:=by
 unfold hsN
 split
 ·have:(hi - lo - first - 1) / step≤hi - lo - first - 1:=Int.ediv_le_self _ (by omega)
  omega
 ·omega
structure Slnt where
 low:Int
 high:Int
 most:Int
def topsA (T:Int→Int) (hi:Int):Nat→Int→List Int
 | 0,_=>[]
 | n+1,z=>if z < hi then min hi (z+T z) :: topsA T hi n (min hi (z+T z)) else []
def tops (T:Int→Int) (hi z:Int):List Int:=topsA T hi (hi - z).toNat z
end Go.Proofs.YtophoepbedlhjaaGreatDoor
-- NEWM
namespace Go.Proofs.YtophoepbedlhjaaGreatDoor
open Go Go.RowKit
set_option maxRecDepth 100000
abbrev Vec3.row (v:Vec3):List CV:=[I v.x,I v.y,I v.z]
abbrev Fac3.row (f:Fac3):List CV:=[I f.a,I f.b,I f.c]
abbrev Sid2.row (s:Sid2):List CV:=[I s.f,I s.t]
abbrev mshA (v w:Value) (V:List Vec3) (F:List Fac3):AV:=.a [.c (.r v (V.map Vec3.row)),.c (.r w (F.map Fac3.row))]
theorem ze7 (n lo hi:Int):ACalls Tryz.prog 112 [.c (I n),.c (I lo),.c (I hi)] [] fun u H=>u = .c (B (decide (n < lo) || decide (hi < n)))∧H = []:=by
 refine zb (N:=15) Tryz.func112 rfl rfl (by simp) fun E hE=>?_
 by_cases h1:n < lo
 ·repeat' (first
   | refine ZY ?_
   | refine zu rfl (by assumption) ?_|refine zt rfl (by assumption) ?_|refine zl rfl (fun _=>?_) (fun _=>?_)|refine zh rfl (fun _=>?_) (fun _=>?_)
   | (refine ze ?_;refine WE ?_))
  all_goals (refine arz (q:=⟨congrArg (fun z=>AV.c (B z)) ?_,rfl⟩))
  all_goals simp[*]
 ·repeat' (first
   | refine ZY ?_
   | refine zu rfl (by assumption) ?_|refine zt rfl (by assumption) ?_|refine zl rfl (fun _=>?_) (fun _=>?_)|refine zh rfl (fun _=>?_) (fun _=>?_)
   | (refine ze ?_;refine WE ?_))
  all_goals (refine arz (q:=⟨congrArg (fun z=>AV.c (B z)) ?_,rfl⟩))
  all_goals (simp[*];try omega)
theorem rin_v (n lo hi:Int):ACalls Tryz.prog 146 [.c (I n),.c (I lo),.c (I hi)] [] fun u H=>u = .c (B (!(decide (n < lo) || decide (hi < n))))∧H = []:=by
 refine zb (N:=15) Tryz.func146 rfl rfl (by simp) fun E hE=>?_
 by_cases h1:lo≤n
 ·repeat' (first
   | refine ZY ?_
   | refine zu rfl (by assumption) ?_|refine zt rfl (by assumption) ?_|refine zl rfl (fun _=>?_) (fun _=>?_)|refine zh rfl (fun _=>?_) (fun _=>?_)
   | (refine ze ?_;refine WE ?_))
  all_goals (refine arz (q:=⟨congrArg (fun z=>AV.c (B z)) ?_,rfl⟩))
  all_goals (rw[Bool.eq_iff_iff];simp;try omega)
 ·repeat' (first
   | refine ZY ?_
   | refine zu rfl (by assumption) ?_|refine zt rfl (by assumption) ?_|refine zl rfl (fun _=>?_) (fun _=>?_)|refine zh rfl (fun _=>?_) (fun _=>?_)
   | (refine ze ?_;refine WE ?_))
  all_goals (refine arz (q:=⟨congrArg (fun z=>AV.c (B z)) ?_,rfl⟩))
  all_goals (rw[Bool.eq_iff_iff];simp;try omega)
theorem farI_v (n:Int):ACalls Tryz.prog 109 [.c (I n)] [] fun u H=>u = .c (B (farI n))∧H = []:=by
 refine zb (N:=5) Tryz.func109 rfl rfl (by simp) fun E hE=>?_
 repeat' (first
  | refine ZY ?_
  | refine zu rfl (by assumption) ?_|refine zt rfl (by assumption) ?_|refine zl rfl (fun _=>?_) (fun _=>?_)|refine zh rfl (fun _=>?_) (fun _=>?_)
  | (refine ze (id:=1) ?_
     refine WO ?_
     refine zf rfl (zn false (fun _=>ze7 _ _ _) rfl .fn rfl (by decide) (by kernel_rfl) rfl (fun _g=>.cons (.c rfl) (.cons (.c rfl) (.cons (.c rfl) .nil))) (by simp)) ?_
     rintro _ _ ⟨_,_,_,⟨rfl,rfl⟩,hF,hH⟩
     (refine NST hF hH ?_;clear hF hH;rintro rfl rfl)
     refine WE ?_)
  | (refine ze ?_;refine WE ?_))
 refine arz (q:=⟨rfl,rfl⟩)
def Vec3.in (v:Vec3) (M:Int):Prop:=(-M≤v.x∧v.x≤M)∧(-M≤v.y∧v.y≤M)∧(-M≤v.z∧v.z≤M)
theorem zO1 {x y M:Int} (hM:0≤M) (hx:-M≤x∧x≤M) (hy:-M≤y∧y≤M):-(M*M)≤x*y∧x*y≤M*M:=by
 have h1:(x*y).natAbs≤(M*M).natAbs:=by
  rw[Int.natAbs_mul,Int.natAbs_mul]
  exact Nat.mul_le_mul (by omega) (by omega)
 have h2:0≤M*M:=Int.mul_nonneg hM hM
 omega
theorem less_v (a b:Vec3) (ha:a.in 1000000) (hb:b.in 1000000):ACalls Tryz.prog 273 [.a (a.row.map .c),.a (b.row.map .c)] [] fun u H=>u = .a ((sub3 a b).row.map .c)∧H = []:=by
 obtain⟨ax,ay,az⟩:=a
 obtain⟨bx,by',bz⟩:=b
 simp only[Vec3.in] at ha hb
 refine zb (N:=21) Tryz.func273 rfl rfl (by simp) fun E hE=>?_
 repeat' (first
  | refine ZY ?_
  | refine zu rfl (by assumption) ?_|refine zt rfl (by assumption) ?_|refine zl rfl (fun _=>?_) (fun _=>?_)|refine zh rfl (fun _=>?_) (fun _=>?_)
  | (refine ze ?_;refine WE ?_))
 exact zn1 [] _ rfl (KK (t:=90) rfl) rfl (Cells.box rfl) (by simp) (by(try simp only[nm,putL,Nat.reduceAdd,cellsOf,cvOf]) <;> rfl) (by decide) (ZNK rfl) (fun _=>C0 rfl) (fun _=>.nil) ⟨rfl,rfl⟩
theorem zO8 (a b:Vec3) (ha:a.in 1000000) (hb:b.in 1000000):ACalls Tryz.prog 264 [.a (a.row.map .c),.a (b.row.map .c)] [] fun u H=>u = .a ((sub3 a b).row.map .c)∧H = []:=by
 obtain⟨ax,ay,az⟩:=a
 obtain⟨bx,by',bz⟩:=b
 simp only[Vec3.in] at ha hb
 refine zb (N:=21) Tryz.func264 rfl rfl (by simp) fun E hE=>?_
 repeat' (first
  | refine ZY ?_
  | refine zu rfl (by assumption) ?_|refine zt rfl (by assumption) ?_|refine zl rfl (fun _=>?_) (fun _=>?_)|refine zh rfl (fun _=>?_) (fun _=>?_)
  | (refine ze ?_;refine WE ?_))
 exact zn1 [] _ rfl (KK (t:=90) rfl) rfl (Cells.box rfl) (by simp) (by(try simp only[nm,putL,Nat.reduceAdd,cellsOf,cvOf]) <;> rfl) (by decide) (ZNK rfl) (fun _=>C0 rfl) (fun _=>.nil) ⟨rfl,rfl⟩
theorem cross_v (a b:Vec3) (ha:a.in 200000) (hb:b.in 200000):ACalls Tryz.prog 188 [.a (a.row.map .c),.a (b.row.map .c)] [] fun u H=>u = .a ((crs a b).row.map .c)∧H = []:=by
 obtain⟨ax,ay,az⟩:=a
 obtain⟨bx,by',bz⟩:=b
 simp only[Vec3.in] at ha hb
 have p1:=zO1 (by omega) ha.2.1 hb.2.2
 have p2:=zO1 (by omega) ha.2.2 hb.2.1
 have p3:=zO1 (by omega) ha.2.2 hb.1
 have p4:=zO1 (by omega) ha.1 hb.2.2
 have p5:=zO1 (by omega) ha.1 hb.2.1
 have p6:=zO1 (by omega) ha.2.1 hb.1
 refine zb (N:=39) Tryz.func188 rfl rfl (by simp) fun E hE=>?_
 repeat' (first
  | refine ZY ?_
  | refine zu rfl (by assumption) ?_|refine zt rfl (by assumption) ?_|refine zl rfl (fun _=>?_) (fun _=>?_)|refine zh rfl (fun _=>?_) (fun _=>?_)
  | (refine ze ?_;refine WE ?_))
 exact zn1 [] _ rfl (KK (t:=90) rfl) rfl (Cells.box rfl) (by simp) (by(try simp only[nm,putL,Nat.reduceAdd,cellsOf,cvOf]) <;> rfl) (by decide) (ZNK rfl) (fun _=>C0 rfl) (fun _=>.nil) ⟨rfl,rfl⟩
theorem rcross_v (a b:Vec3) (ha:a.in 200000) (hb:b.in 200000):ACalls Tryz.prog 263 [.a (a.row.map .c),.a (b.row.map .c)] [] fun u H=>u = .a ((crs a b).row.map .c)∧H = []:=by
 obtain⟨ax,ay,az⟩:=a
 obtain⟨bx,by',bz⟩:=b
 simp only[Vec3.in] at ha hb
 have p1:=zO1 (by omega) ha.2.1 hb.2.2
 have p2:=zO1 (by omega) ha.2.2 hb.2.1
 have p3:=zO1 (by omega) ha.2.2 hb.1
 have p4:=zO1 (by omega) ha.1 hb.2.2
 have p5:=zO1 (by omega) ha.1 hb.2.1
 have p6:=zO1 (by omega) ha.2.1 hb.1
 refine zb (N:=39) Tryz.func263 rfl rfl (by simp) fun E hE=>?_
 repeat' (first
  | refine ZY ?_
  | refine zu rfl (by assumption) ?_|refine zt rfl (by assumption) ?_|refine zl rfl (fun _=>?_) (fun _=>?_)|refine zh rfl (fun _=>?_) (fun _=>?_)
  | (refine ze ?_;refine WE ?_))
 exact zn1 [] _ rfl (KK (t:=90) rfl) rfl (Cells.box rfl) (by simp) (by(try simp only[nm,putL,Nat.reduceAdd,cellsOf,cvOf]) <;> rfl) (by decide) (ZNK rfl) (fun _=>C0 rfl) (fun _=>.nil) ⟨rfl,rfl⟩
theorem vrow {V:List Vec3} {i:Nat} (h:i < V.length):(V.map Vec3.row)[i]?=some (vx V i).row:=by
 rw[List.getElem?_map,List.getElem?_eq_getElem h]
 simp[vx,h]
theorem nearI {V:List Vec3} (hV:∀v∈V,farV v=false) {i:Nat} (h:i < V.length):(vx V i).in 100000:=by
 have h1:=hV _ (vx_mem (V:=V) (i:=i) (by omega) (by omega))
 simp only[farV,farI,Bool.or_eq_false_iff,decide_eq_false_iff_not] at h1
 simp only[Vec3.in]
 omega
theorem Vec3.in_mono {v:Vec3} {M N:Int} (h:v.in M) (hM:M≤N):v.in N:=by
 simp only[Vec3.in] at h ⊢;omega
theorem zf6 {a b:Vec3} {M N:Int} (ha:a.in M) (hb:b.in N):(sub3 a b).in (M+N):=by
 simp only[Vec3.in,sub3] at ha hb ⊢;omega
theorem nrm_v (v w:Value) (V:List Vec3) (fr:List (List CV)) (ia ib ic:Nat) (hV:∀v∈V,farV v=false) (ha:ia < V.length) (hb:ib < V.length) (hc:ic < V.length) :
    ACalls Tryz.prog 181 [.a [.c (.r v (V.map Vec3.row)),.c (.r w fr)],.a [.c (I ia),.c (I ib),.c (I ic)]] [] fun u H=>u = .a ((nrm V ⟨ia,ib,ic⟩).row.map .c)∧H = []:=by
 have ra:=vrow ha
 have rb:=vrow hb
 have rc:=vrow hc
 refine zb (N:=29) Tryz.func181 rfl rfl (by simp) fun E hE=>?_
 refine WA ?_
 refine WA ?_
 refine ZZ ?_
 refine zc [(0,none),(1,none),(2,none),(3,none),(4,none),(5,none),(6,none),(8,none),(9,none),(10,none),(11,none),(12,none),(13,none),(14,none),(7,some [8,9,10,11,12,13,14]),(15,some []),(16,some []),(17,some [])] zo (by kernel_rfl) ?_
 refine WP ?_
 refine zY rfl rfl (efk (c:=fun _=>less_v (vx V ib) (vx V ia) (Vec3.in_mono (nearI hV (by omega)) (by omega)) (Vec3.in_mono (nearI hV (by omega)) (by omega)))) ?_
 rintro _ _ ⟨_,_,_,⟨rfl,rfl⟩,hF,hH⟩
 (refine NST hF hH ?_;clear hF hH;rintro rfl rfl)
 refine⟨zj (by first|exact zF rfl rfl rfl (ZX (KF (t:=29) (f:=0) rfl rfl)) rfl) (zj (by first|exact zF rfl rfl rfl (ZL (KK (t:=26) rfl)) rfl) (zj (by first|exact zF rfl rfl rfl (ZX (KF (t:=97) (f:=2) rfl rfl)) rfl) (zj (by first|exact zF rfl rfl rfl (ZL (KK (t:=3) rfl)) rfl) (zj (by first|exact zF rfl rfl rfl (ZI (KE (t:=26) rfl)) rfl|exact zF rfl rfl rfl (ZJ (KE (t:=26) rfl)) rfl|exact zF rfl rfl rfl (zc7 rfl (KE (t:=26) rfl) rfl rfl rfl (by first|rfl|omega) (by omega) (by omega)) rfl) (zj (by first|exact zF rfl rfl rfl (ZK (KK (t:=90) rfl)) rfl) (zj (by first|exact zF rfl rfl rfl (ZK (KK (t:=90) rfl)) rfl) (zk))))))), ?_⟩
 refine zY rfl rfl (efk (c:=fun _=>less_v (vx V ic) (vx V ia) (Vec3.in_mono (nearI hV (by omega)) (by omega)) (Vec3.in_mono (nearI hV (by omega)) (by omega)))) ?_
 rintro _ _ ⟨_,_,_,⟨rfl,rfl⟩,hF,hH⟩
 (refine NST hF hH ?_;clear hF hH;rintro rfl rfl)
 refine⟨zk, ?_⟩
 refine zY rfl rfl (efk (c:=fun _=>cross_v (sub3 (vx V ib) (vx V ia)) (sub3 (vx V ic) (vx V ia)) (Vec3.in_mono (zf6 (nearI hV (by omega)) (nearI hV (by omega))) (by omega)) (Vec3.in_mono (zf6 (nearI hV (by omega)) (nearI hV (by omega))) (by omega)))) ?_
 rintro _ _ ⟨_,_,_,⟨rfl,rfl⟩,hF,hH⟩
 (refine NST hF hH ?_;clear hF hH;rintro rfl rfl)
 refine⟨zk, ?_⟩
 refine WQ ?_
 exact zn1 [] _ rfl (KK (t:=90) rfl) rfl (Cells.box rfl) (by simp) (by(try simp only[nm,putL,Nat.reduceAdd,cellsOf,cvOf]) <;> rfl) (by decide) (ZNK rfl) (fun _=>C0 rfl) (fun _=>.nil) ⟨rfl,rfl⟩
end Go.Proofs.YtophoepbedlhjaaGreatDoor
-- NEWM
namespace Go.Proofs.YtophoepbedlhjaaGreatDoor
open Go Go.RowKit
set_option maxRecDepth 100000
theorem aret_c3 {fn:Func} {nl p q r k:Nat} {ty:TypeId} {Qr:AV→List OB→Prop} {F:Fm} {H:List OB} {u v w:AV} {a b c a' b' c':List AV} (hr:fn.results=#[.cell p ty,.cell q ty,.cell r ty]) (hk:ldk Tryz.prog ty=some (some k)) (h1:F.lookup p=some u) (h2:F.lookup q=some v) (h3:F.lookup r=some w)
    (c1:Cells H u a) (c2:Cells H v b) (c3:Cells H w c) (n1:k≤a.length) (n2:k≤b.length) (n3:k≤c.length) (e1:a.take k=a') (e2:b.take k=b') (e3:c.take k=c') (hl:nl=0) (v1:∀g,CvL g [] H true a' a') (v2:∀g,CvL g [] H true b' b') (v3:∀g,CvL g [] H true c' c') (hq:Qr (.t [.a a',.a b',.a c']) []):ARet Tryz.prog fn nl Qr .ret F H:=by
 subst hl
 exact zI (us:=[.a a',.a b',.a c']) [] (fun _=>.t [.a a',.a b',.a c']) (fun _=>[]) (by rw[hr];exact .cella h1 hk c1 n1 e1 (.cella h2 hk c2 n2 e2 (.cella h3 hk c3 n3 e3 .nil))) (by decide) (fun i hi=>absurd hi (Nat.not_lt_zero i)) (fun g=>.tL (.cons (.aL (v1 g)) (.cons (.aL (v2 g)) (.cons (.aL (v3 g)) .nil)))) (fun _=>.nil) (fun _=>hq)
theorem zG9 (v w:Value) (V:List Vec3) (fr:List (List CV)) (ia ib ic:Nat) (ha:ia < V.length) (hb:ib < V.length) (hc:ic < V.length) :
    ACalls Tryz.prog 262 [.a [.c (.r v (V.map Vec3.row)),.c (.r w fr)],.a [.c (I ia),.c (I ib),.c (I ic)]] [] fun u H=>u = .t [.a ((vx V ia).row.map .c),.a ((vx V ib).row.map .c),.a ((vx V ic).row.map .c)]∧H = []:=by
 have ra:=vrow ha
 have rb:=vrow hb
 have rc:=vrow hc
 refine zb (N:=25) Tryz.func262 rfl rfl (by simp) fun E hE=>?_
 repeat' (first
  | refine ZY ?_
  | refine zu rfl (by assumption) ?_|refine zt rfl (by assumption) ?_|refine zl rfl (fun _=>?_) (fun _=>?_)|refine zh rfl (fun _=>?_) (fun _=>?_)
  | (refine zc (id:=1) [(0,none),(1,none),(2,none),(3,none),(4,none),(5,none),(6,none),(7,none),(8,none),(9,none),(10,none),(11,none),(12,none),(13,none),(14,none),(15,none),(16,none),(17,none),(18,some [6,7,8,9,10,11,12,13,14,15,16,17]),(19,some [12,13,14,15,16,17]),(20,some [])] zo (by kernel_rfl) ?_
     refine WQ ?_)
  | (refine ze ?_;refine WE ?_))
 exact aret_c3 rfl (KK (t:=90) rfl) rfl rfl rfl (Cells.box rfl) (Cells.box rfl) (Cells.box rfl) (by simp) (by simp) (by simp) (by(try simp only[nm,putL,Nat.reduceAdd,cellsOf,cvOf]) <;> rfl) (by(try simp only[nm,putL,Nat.reduceAdd,cellsOf,cvOf]) <;> rfl) (by(try simp only[nm,putL,Nat.reduceAdd,cellsOf,cvOf]) <;> rfl) rfl (fun _=>C0 rfl) (fun _=>C0 rfl) (fun _=>C0 rfl) ⟨rfl,rfl⟩
theorem rnrm_v (v w:Value) (V:List Vec3) (fr:List (List CV)) (ia ib ic:Nat) (hV:∀v∈V,farV v=false) (ha:ia < V.length) (hb:ib < V.length) (hc:ic < V.length) :
    ACalls Tryz.prog 178 [.a [.c (.r v (V.map Vec3.row)),.c (.r w fr)],.a [.c (I ia),.c (I ib),.c (I ic)]] [] fun u H=>u = .a ((nrm V ⟨ia,ib,ic⟩).row.map .c)∧H = []:=by
 refine zb (N:=22) Tryz.func178 rfl rfl (by simp) fun E hE=>?_
 refine WA ?_
 refine WR ?_
 refine zf rfl (efk (c:=fun _=>zG9 v w V fr ia ib ic ha hb hc)) ?_
 rintro _ _ ⟨_,_,_,⟨rfl,rfl⟩,hF,hH⟩
 (refine NST hF hH ?_;clear hF hH;rintro rfl rfl)
 refine WE ?_
 refine ZZ ?_
 refine zc [(0,none),(1,none),(3,none),(4,none),(2,some [3,4]),(5,some []),(6,some []),(7,some [])] zo (by kernel_rfl) ?_
 refine WP ?_
 refine zY rfl rfl (efk (c:=fun _=>zO8 (vx V ib) (vx V ia) (Vec3.in_mono (nearI hV (by omega)) (by omega)) (Vec3.in_mono (nearI hV (by omega)) (by omega)))) ?_
 rintro _ _ ⟨_,_,_,⟨rfl,rfl⟩,hF,hH⟩
 (refine NST hF hH ?_;clear hF hH;rintro rfl rfl)
 refine⟨zj (by first|exact zF rfl rfl rfl (ZK (KK (t:=90) rfl)) rfl) (zj (by first|exact zF rfl rfl rfl (ZK (KK (t:=90) rfl)) rfl) (zk)), ?_⟩
 refine zY rfl rfl (efk (c:=fun _=>zO8 (vx V ic) (vx V ia) (Vec3.in_mono (nearI hV (by omega)) (by omega)) (Vec3.in_mono (nearI hV (by omega)) (by omega)))) ?_
 rintro _ _ ⟨_,_,_,⟨rfl,rfl⟩,hF,hH⟩
 (refine NST hF hH ?_;clear hF hH;rintro rfl rfl)
 refine⟨zk, ?_⟩
 refine zY rfl rfl (efk (c:=fun _=>rcross_v (sub3 (vx V ib) (vx V ia)) (sub3 (vx V ic) (vx V ia)) (Vec3.in_mono (zf6 (nearI hV (by omega)) (nearI hV (by omega))) (by omega)) (Vec3.in_mono (zf6 (nearI hV (by omega)) (nearI hV (by omega))) (by omega)))) ?_
 rintro _ _ ⟨_,_,_,⟨rfl,rfl⟩,hF,hH⟩
 (refine NST hF hH ?_;clear hF hH;rintro rfl rfl)
 refine⟨zk, ?_⟩
 refine WQ ?_
 exact zn1 [] _ rfl (KK (t:=90) rfl) rfl (Cells.box rfl) (by simp) (by(try simp only[nm,putL,Nat.reduceAdd,cellsOf,cvOf]) <;> rfl) (by decide) (ZNK rfl) (fun _=>C0 rfl) (fun _=>.nil) ⟨rfl,rfl⟩
abbrev sdsC (f:Fac3):List CV:=[I f.a,I f.b,I f.b,I f.c,I f.c,I f.a]
theorem sides_v (f:Fac3):ACalls Tryz.prog 111 [.a (f.row.map .c)] [] fun u H=>u = .a ((sdsC f).map .c)∧H = []:=by
 refine zb (N:=19) Tryz.func111 rfl rfl (by simp) fun E hE=>?_
 repeat' (first
  | refine ZY ?_
  | refine zu rfl (by assumption) ?_|refine zt rfl (by assumption) ?_|refine zl rfl (fun _=>?_) (fun _=>?_)|refine zh rfl (fun _=>?_) (fun _=>?_)
  | (refine ze (id:=1) ?_
     iterate 15 refine WX1 ?_
     refine ZA (zi2 (pl:=[(0,2),(2,2),(4,2)]) rfl (KZ (t:=195) rfl) rfl (by kernel_rfl) (Zbc (z:=Zbc (z:=Zbc (z:=.nil))))) ?_
     refine WE ?_)
  | (refine ze ?_;refine WE ?_))
 exact zn1 [] _ rfl (KK (t:=195) rfl) rfl (Cells.box rfl) (by simp) (by(try simp only[nm,putL,Nat.reduceAdd,cellsOf,cvOf]) <;> rfl) (by decide) (ZNK rfl) (fun _=>C0 rfl) (fun _=>.nil) ⟨rfl,rfl⟩
theorem zN8 (f:Fac3):ACalls Tryz.prog 105 [.a (f.row.map .c)] [] fun u H=>(∃q,u = .c (.r q ((sds f).map Sid2.row)))∧H = []:=by
 refine zb (N:=19) Tryz.func105 rfl rfl (by simp) fun E hE=>?_
 repeat' (first
  | refine ZY ?_
  | refine zu rfl (by assumption) ?_|refine zt rfl (by assumption) ?_|refine zl rfl (fun _=>?_) (fun _=>?_)|refine zh rfl (fun _=>?_) (fun _=>?_)
  | (refine ze ?_;refine WE ?_))
 exact zt8 [] _ rfl rfl rfl rfl rfl rfl rfl (by decide) (ZNK rfl) (fun _=>.nil) (fun q=>⟨⟨q,rfl⟩,rfl⟩)
end Go.Proofs.YtophoepbedlhjaaGreatDoor
