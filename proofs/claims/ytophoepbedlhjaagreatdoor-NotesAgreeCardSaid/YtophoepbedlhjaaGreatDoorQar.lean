/- Strings in the logic over values: bytes as a slice of the call's own, and back; functions without a body. -/
import Derived.Test.YtophoepbedlhjaaGreatDoorQaq
import Derived.Lib.SplitLaws
import Derived.Lib.IndexBytes
import Derived.Lib.Join
import Derived.Test.YtophoepbedlhjaaGreatDoorQal
import Derived.Shelf.Strings.Split
import Derived.Shelf.Strings.OnBuilder
import Derived.Test.YtophoepbedlhjaaGreatDoorProg
import Derived.Test.YtophoepbedlhjaaGreatDoorQaj
import Derived.Laws.IdiomStrings
import Derived.Laws.BytesString
import Derived.Laws.Externs
set_option linter.unusedSimpArgs false
set_option linter.unusedVariables false
namespace Go.Proofs.YtophoepbedlhjaaGreatDoor
section
open Go
def spl (c:UInt8):List UInt8→List (List UInt8)
 | []=>[[]]
 | x :: l=>if x=c then [] :: spl c l else match spl c l with
  | []=>[[x]]
  | h :: t=>(x :: h) :: t
theorem zT16 (c:UInt8) (l:List UInt8):spl c l≠[]:=by
 cases l with
 | nil=>simp[spl]
 | cons x l=>
  unfold spl
  split
  ·simp
  ·split <;> simp
theorem zc6 {c:UInt8}:∀{a:List UInt8},c∉a→spl c a = [a]
 | [],_=>rfl
 | x :: a,h=>by
  have hx:¬x=c:=fun e=>h (e▸List.mem_cons_self)
  rw[spl,if_neg hx,zc6 fun e=>h (List.mem_cons_of_mem _ e)]
theorem zQ2 {c:UInt8} {b:List UInt8}:∀{a:List UInt8},c∉a→spl c (a++c :: b)=a :: spl c b
 | [],_=>by rw[List.nil_append,spl,if_pos rfl]
 | x :: a,h=>by
  have hx:¬x=c:=fun e=>h (e▸List.mem_cons_self)
  rw[List.cons_append,spl,if_neg hx,zQ2 fun e=>h (List.mem_cons_of_mem _ e)]
theorem zz10 (c:UInt8):∀s:List UInt8,c∉s∨∃a b,s=a++c :: b∧c∉a
 | []=>.inl (by simp)
 | x :: s=>by
  by_cases hx:x=c
  ·exact .inr ⟨[],s,by rw[hx];rfl,by simp⟩
  ·rcases zz10 c s with h|⟨a,b,rfl,h⟩
   ·exact .inl (by simp[Ne.symm hx,h])
   ·exact .inr ⟨x :: a,b,rfl,by simp[Ne.symm hx,h]⟩
theorem zn18 {c:UInt8}:∀(n:Nat) (s:List UInt8),s.length=n→spl c (s++[c])=spl c s++[[]]:=fun n=>by
 induction n using Nat.strongRecOn with
 | _ n ih=>
  intro s hn
  rcases zz10 c s with h|⟨a,b,rfl,h⟩
  ·rw[zQ2 (b:=[]) h,zc6 h];rfl
  ·rw[List.append_assoc,List.cons_append,zQ2 h,zQ2 h,ih b.length (by rw[←hn];simp;omega) b rfl]
   rfl
theorem zj7 {c:UInt8}:∀(n:Nat) (s:List UInt8),s.length=n→∀w∈spl c s,c∉w∧w.length≤s.length∧∀x∈w,x∈s:=fun n=>by
 induction n using Nat.strongRecOn with
 | _ n ih=>
  intro s hn w hw
  rcases zz10 c s with h|⟨a,b,rfl,h⟩
  ·rw[zc6 h,List.mem_singleton] at hw
   subst hw
   exact⟨h,Nat.le_refl _,fun x hx=>hx⟩
  ·rw[zQ2 h] at hw
   rcases List.mem_cons.1 hw with rfl|hw
   ·exact⟨h,by simp,fun x hx=>List.mem_append_left _ hx⟩
   ·obtain⟨h1,h2,h3⟩:=ih b.length (by rw[←hn];simp;omega) b rfl w hw
    exact⟨h1,by simp;omega,fun x hx=>List.mem_append_right _ (List.mem_cons_of_mem _ (h3 x hx))⟩
theorem zf5 {c:UInt8}:∀s:List UInt8,(spl c s).length=s.count c+1
 | []=>rfl
 | x :: s=>by
  have ih:=zf5 (c:=c) s
  unfold spl
  split
  ·rename_i h;subst h;simp[ih]
  ·rename_i h
   rw[List.count_cons_of_ne h,←ih]
   split
   ·rename_i h2;exact absurd h2 (zT16 _ _)
   ·rename_i h2;rw[h2];simp
theorem zi15 (c:UInt8):∀(n:Nat) (s:List UInt8),s.length=n→Lib.splitK [c] 0 (s.count c) s=spl c s:=fun n=>by
 induction n using Nat.strongRecOn with
 | _ n ih=>
  intro s hn
  rcases zz10 c s with h|⟨a,b,rfl,h⟩
  ·rw[List.count_eq_zero.2 h,zc6 h];rfl
  ·have hi:Lib.index (a++c :: b) [c]=(a.length:Int):=by
    rw[Lib.index_one]
    clear ih hn
    induction a with
    | nil=>simp[Lib.indexByte]
    | cons x a ih2=>
     have hx:¬x=c:=fun e=>h (e▸List.mem_cons_self)
     have h2:=ih2 fun e=>h (List.mem_cons_of_mem _ e)
     rw[List.cons_append,Lib.indexByte,h2]
     rw[if_neg (by simpa using hx),if_neg (by simp)]
     simp
   rw[List.count_append,List.count_eq_zero.2 h,Nat.zero_add,List.count_cons_self,Lib.splitK,hi,if_neg (by simp),zQ2 h]
   have e:(a++c :: b).drop ((a.length:Int).toNat+[c].length)=b:=by
    rw[show (a.length:Int).toNat+[c].length=a.length+1 by simp,←List.drop_drop]
    simp
   rw[e,ih b.length (by rw[←hn];simp;omega) b rfl]
   simp
theorem zM9 {c:UInt8}:∀{ws:List (List UInt8)},ws≠[]→(∀w∈ws,c∉w)→spl c (Lib.join ws [c])=ws
 | [],h,_=>absurd rfl h
 | [w],_,h=>by rw[Lib.join_one,zc6 (h w List.mem_cons_self)]
 | w :: x :: ws,_,h=>by
  have e:Lib.join (w :: x :: ws) [c]=w++c :: Lib.join (x :: ws) [c]:=by
   rw[Lib.join_cons,Lib.join_cons]
   simp[Lib.joinTail]
  rw[e,zQ2 (h w List.mem_cons_self),zM9 (by simp) fun y hy=>h y (List.mem_cons_of_mem _ hy)]
def lnsF (s:List UInt8):List (List UInt8) × Bool:=
 if s = [] then ([],true) else if s.getLast?=some 10 then (spl 10 s.dropLast,true) else (spl 10 s,false)
theorem zO15 {a b:List UInt8} (h:10∉a):lnsF (a++10 :: b)=(a :: (lnsF b).1,(lnsF b).2):=by
 unfold lnsF
 rw[if_neg (by simp)]
 by_cases hb:b = []
 ·subst hb
  rw[if_pos (by simp),if_pos rfl,List.dropLast_concat,zc6 h]
 ·have e1:(a++10 :: b).getLast?=b.getLast?:=by
   cases b with
   | nil=>exact absurd rfl hb
   | cons y b=>
    rw[List.getLast?_append,List.getLast?_cons_cons,List.getLast?_eq_some_getLast (show y :: b≠[] by simp)]
    rfl
  have e2:(a++10 :: b).dropLast=a++10 :: b.dropLast:=by
   rw[List.dropLast_append_of_ne_nil (by simp),List.dropLast_cons_of_ne_nil hb]
  rw[if_neg hb,e1,e2,zQ2 h,zQ2 h]
  split <;> rfl
def wrdsF (s:List UInt8):Option (List (List UInt8)):=if []∈spl 32 s then none else some (spl 32 s)
def jnF (ws:List (List UInt8)):List UInt8:=Lib.join ws [32]++[10]
theorem zC11 {ws:List (List UInt8)} (h0:ws≠[]) (h:∀w∈ws,32∉w∧w≠[]):wrdsF (Lib.join ws [32])=some ws:=by
 unfold wrdsF
 rw[zM9 h0 fun w hw=>(h w hw).1,if_neg fun hm=>(h _ hm).2 rfl]
theorem zl10 {c x:UInt8}:∀{ws:List (List UInt8)},x∈Lib.join ws [c]→x=c∨∃w∈ws,x∈w
 | [],h=>by simp[Lib.join_nil] at h
 | [w],h=>.inr ⟨w,List.mem_cons_self,by rwa [Lib.join_one] at h⟩
 | w :: y :: ws,h=>by
  have e:Lib.join (w :: y :: ws) [c]=w++c :: Lib.join (y :: ws) [c]:=by
   rw[Lib.join_cons,Lib.join_cons]
   simp[Lib.joinTail]
  rw[e,List.mem_append,List.mem_cons] at h
  rcases h with h|h|h
  ·exact .inr ⟨w,List.mem_cons_self,h⟩
  ·exact .inl h
  ·rcases zl10 h with h|⟨v,hv,h⟩
   ·exact .inl h
   ·exact .inr ⟨v,List.mem_cons_of_mem _ hv,h⟩
theorem zs12:∀{ls:List (List UInt8)},(∀w∈ls,10∉w)→lnsF (ls.map fun w=>w++[10]).flatten=(ls,true)
 | [],_=>rfl
 | w :: ls,h=>by
  rw[List.map_cons,List.flatten_cons,List.append_assoc,List.singleton_append,zO15 (h w List.mem_cons_self),zs12 fun y hy=>h y (List.mem_cons_of_mem _ hy)]
end
section
open Go Go.Shelf Go.RowKit
set_option maxRecDepth 100000
abbrev wR (ws:List (List UInt8)):List (List CV):=ws.map fun w=>[T w]
section
variable {P:Program} {r:Ren}
set_option maxHeartbeats 1000000 in
theorem zK11 (L:Lays.n146 P r) (hi9:(P.info? (r.t 9)).map (fun i=>(i.zero,i.size,i.bytes))=some (some (.string ByteArray.empty),1,16)) (s:ByteArray) (c:UInt8) (w:World) (hs:s.size < 4294967281) :
    Calls P (r.f 146) #[.string s,.string ⟨#[c]⟩] w fun e w'=>
     e = .returned (.slice (some ⟨w.heap.size,0,none⟩) (Lib.countB s ⟨#[c]⟩+1) (Lib.countB s ⟨#[c]⟩+1))∧w'=w.alloc (.cells ((Lib.splitB ⟨#[c]⟩ 0 (Lib.countB s ⟨#[c]⟩) s).map Value.string).toArray (r.t 9)):=by
 have h1:1≤(⟨#[c]⟩:ByteArray).size:=Nat.le_refl 1
 have hle:=Lib.countB_le ⟨#[c]⟩ h1 s.size s (Nat.le_refl _)
 have hlen:=Lib.splitB_all ⟨#[c]⟩ h1 0 _ s rfl
 have c0:=Any.strings_genSplit_core { L with } hi9 s ⟨#[c]⟩ 0 (-1) (Lib.countB s ⟨#[c]⟩+1) w hs h1 (Nat.zero_le _)
  (fun x c2 hx=>(Any.strings_Index_one { L with } x c _).mono fun e w' ⟨he,hw⟩=>⟨by rw[he,←Lib.index_one],hw⟩)
  ((Any.strings_Count_one { L with } s c w).mono fun e w' ⟨he,hw⟩=>⟨by
   rw[he]
   show _=Ending.returned (Value.int .i64 ((Lib.count s.data.toList [c]:Nat):Int))
   rw[Lib.count_one]
   rfl,hw⟩) (by decide) (by decide) (by rw[if_pos (by decide)];omega)
 rw[Nat.add_sub_cancel,hlen] at c0
 have e2:Lib.cellsOf (Lib.splitB ⟨#[c]⟩ 0 (Lib.countB s ⟨#[c]⟩) s) (Lib.countB s ⟨#[c]⟩+1)=((Lib.splitB ⟨#[c]⟩ 0 (Lib.countB s ⟨#[c]⟩) s).map Value.string).toArray:=by rw[←hlen];exact Lib.cellsOf_full _
 rw[e2] at c0
 have t3:=L.t3;have t9:=L.t9;have t31:=L.t31
 have a3:=L.a3;have a9:=L.a9;have a31:=L.a31
 have z3:=L.z3;have v3:=L.v3;have z9:=L.z9;have v9:=L.v9;have z31:=L.z31;have v31:=L.v31
 have e221:∀args w,(callFunc (r.f 221) args).run P w = .ok (.enter (r.f 221) args) w:=enters_of L.f221 (by kernel_rfl) rfl
 go_enter L.f146,Body.n146_ntmps r
 go_wp2_with (go_at_fn (r.f 221);refine c0.mono ?_;rintro e w' ⟨rfl,hw⟩;rw[hw])
 go_ret
 exact⟨rfl,rfl⟩
theorem zB8 (L:Lays.n146 P r) (hi9:(P.info? (r.t 9)).map (fun i=>(i.zero,i.size,i.bytes))=some (some (.string ByteArray.empty),1,16)) (s:List UInt8) (c:UInt8) (hs:s.length < 4294967281):ACalls P (r.f 146) [.c (T s),.c (T [c])] [] fun u H=>(∃V,u = .c (.r V (wR (spl c s))))∧H = []:=fun S ρ w hR hW=>by
 have hr0:ρ = []:=List.eq_nil_of_length_eq_zero hR.len
 subst hr0
 refine(zK11 L hi9 (bst s) c w (by show s.toArray.size < _;simpa using hs)).mono ?_
 rintro e w' ⟨rfl,rfl⟩
 have hk:Lib.countB (bst s) ⟨#[c]⟩=s.count c:=by
  show Lib.count s.toArray.toList [c]=_
  rw[Lib.count_one]
 have hd:(Lib.splitB ⟨#[c]⟩ 0 (s.count c) (bst s)).map (·.data.toList)=spl c s:=by
  rw[Lib.splitB_data]
  exact zi15 c _ s rfl
 rw[hk]
 have hn:(wR (spl c s)).length=s.count c+1:=by rw[List.length_map,zf5]
 have hsz:(w.alloc (.cells ((Lib.splitB ⟨#[c]⟩ 0 (s.count c) (bst s)).map Value.string).toArray (r.t 9))).heap.size=w.heap.size+1:=by simp
 refine⟨.c (.r (.slice (some ⟨w.heap.size,0,none⟩) (s.count c+1) (s.count c+1)) (wR (spl c s))),[],[],fun b=>S b∨b=w.heap.size,rfl,⟨⟨_,rfl⟩,rfl⟩,.c (.r (wR (spl c s)) w.heap.size 0 1 _ _ hn (Nat.le_refl _) (.inr rfl) (fun row hr=>?_) (fun k j row u h1 h2=>?_) (fun row hr u hu=>?_)),
  ⟨rfl,fun i i' B h=>(by cases h),fun i B h=>(by cases h),fun i B h=>(by cases h),fun b hb=>?_,fun i o h=>by simp at h,PL.none fun _ _ _=>zx1⟩,(Stp.refl w _).alloc _,fun b hb=>?_,fun i B hi=>(by cases hi),fun i k' B hi=>absurd hi zx1,fun i hi=>by simp at hi,fun h=>by cases h⟩
 ·obtain⟨x,_,rfl⟩:=List.mem_map.1 hr
  rfl
 ·rw[List.getElem?_map] at h1
  obtain⟨x,hx,rfl⟩:=Option.map_eq_some_iff.1 h1
  match j,h2 with
  | 0,h2=>
   simp only[List.getElem?_cons_zero,Option.some.injEq] at h2
   subst h2
   rw[←hd,List.getElem?_map] at hx
   obtain⟨y,hy,rfl⟩:=Option.map_eq_some_iff.1 hx
   have hh:=heap_alloc_new w (.cells ((Lib.splitB ⟨#[c]⟩ 0 (s.count c) (bst s)).map Value.string).toArray (r.t 9))
   unfold World.cell?
   simp only[hh]
   show (((Lib.splitB ⟨#[c]⟩ 0 (s.count c) (bst s)).map Value.string).toArray)[0+k*1+0]?=some (Value.string ⟨y.data.toList.toArray⟩)
   rw[Nat.zero_add,Nat.mul_one,Nat.add_zero,List.getElem?_toArray,List.getElem?_map,hy]
   rfl
  | j+1,h2=>simp at h2
 ·obtain⟨x,_,rfl⟩:=List.mem_map.1 hr
  rw[List.mem_singleton] at hu
  subst hu
  exact .s _
 ·rw[hsz]
  rcases hb with hb|rfl
  ·have:=hR.sS b hb;omega
  ·omega
 ·rcases hb with hb|rfl
  ·exact .inl hb
  ·exact .inr (.inl (Nat.le_refl _))
theorem zC8 {f:FuncId} {args:List AV} {u:CV} (hu:∃v,u = .s v) (h:∀S w,(∀b,S b→b < w.heap.size)→(∀x∈args,WF w S [] [] x)→Calls P f (args.map (AV.den [] [])).toArray w fun e w'=>e = .returned u.den∧Below w.heap.size w w'):ACalls P f args [] fun u' H=>u' = .c u∧H = []:=fun S ρ w hR hW=>by
 have hr0:ρ = []:=List.eq_nil_of_length_eq_zero hR.len
 subst hr0
 obtain⟨v,rfl⟩:=hu
 refine(zP3 (fun e w' hq=>⟨_,hq.1⟩) (h S w hR.sS hW)).mono ?_
 rintro e w' ⟨⟨rfl,hb⟩,hd⟩
 exact⟨.c (.s v),[],[],S,rfl,⟨rfl,rfl⟩,.c (.s v),⟨rfl,fun i i' B h=>(by cases h),fun i B h=>(by cases h),fun i B h=>(by cases h),fun b h=>Nat.lt_of_lt_of_le (hR.sS b h) hb.size,fun i o h=>by simp at h,PL.none fun _ _ _=>zx1⟩,⟨hb.os,hb.tape,hb.output,hb.size,fun b h _=>hb.block b h,hd⟩,fun b hb=>.inl hb,fun i B hi=>(by cases hi),fun i k' B hi=>absurd hi zx1,fun i hi=>by simp at hi,fun h=>by cases h⟩
theorem zv9 (L:Lays.n156 P r) (X:Builder.Extra P r) (V:Value) (ws:List (List UInt8)) (sep:List UInt8) (hl:(Lib.join ws sep).length≤1000000000) (hn:ws.length≤1000000):ACalls P (r.f 156) [.c (.r V (wR ws)),.c (T sep)] [] fun u H=>u = .c (T (Lib.join ws sep))∧H = []:=
 zC8 ⟨_,rfl⟩ fun S w hS hW=>by
  have hxs:(ws.map bst).map (·.data.toList)=ws:=by
   rw[List.map_map]
   exact(List.map_congr_left fun x _=>rfl).trans (List.map_id ws)
  have hg:=hW _ List.mem_cons_self
  cases hg with
  | c hg=>
   generalize hrw:wR ws=rows at hg
   cases hg with
   | nil A c=>
    have h0:ws = []:=List.map_eq_nil_iff.1 hrw
    subst h0
    exact(Any.strings_Join_none L X A c (bst sep) w).mono fun e w' ⟨he,hw⟩=>⟨he,hw▸Below.refl _ _⟩
   | r rows b off sz n c hn2 hc hSb hr hcell hg=>
    subst hrw
    have hn3:ws.length=n:=by rw[←hn2,List.length_map]
    have:=Any.strings_Join L X b off c (ws.map bst) (bst sep) w (fun j x hx=>by
     rw[List.getElem?_map] at hx
     obtain⟨y,hy,rfl⟩:=Option.map_eq_some_iff.1 hx
     have hrow:(wR ws)[j]?=some [T y]:=by rw[List.getElem?_map,hy];rfl
     have h1:sz=1:=(hr _ (List.mem_of_getElem? hrow)).symm
     subst h1
     have h2:=hcell j 0 [T y] (T y) hrow rfl
     rwa [Nat.mul_one,Nat.add_zero] at h2) (hS b hSb) (by rw[List.length_map];omega) (by rw[List.length_map];omega) (by rw[hxs];show (Lib.join ws sep).length≤_;omega)
    rw[hxs,List.length_map,hn3] at this
    exact this
end
end
section
open Go Go.Shelf Go.RowKit
set_option maxRecDepth 100000
def zn8:Go.Shelf.Ren:=⟨fun|156=>226|165=>129|166=>74|169=>76|240=>139|241=>203|276=>219|277=>290|n=>n,fun|31=>61|9=>9|3=>3|4=>4|0=>0|20=>20|72=>140|76=>143|70=>137|37=>138|75=>142|127=>224|164=>293|5=>5|80=>57|n=>n,fun|n=>n⟩
theorem joinL:Go.Proofs.Lays.n156 Tryz.prog zn8:={
 mixed:=by kernel_rfl
 f156:=Tryz.func226.trans (congrArg some (by kernel_rfl))
 f165:=Tryz.func129.trans (congrArg some (by kernel_rfl))
 f166:=Tryz.func74.trans (congrArg some (by kernel_rfl))
 f169:=Tryz.func76.trans (congrArg some (by kernel_rfl))
 f240:=Tryz.func139.trans (congrArg some (by kernel_rfl))
 f241:=Tryz.func203.trans (congrArg some (by kernel_rfl))
 f276:=Tryz.func219.trans (congrArg some (by kernel_rfl))
 f277:=Tryz.func290.trans (congrArg some (by kernel_rfl))
 t0:=Tryz.underlying0
 a0:=Tryz.isAgg0
 z0:=Tryz.sizeOf0
 v0:=Tryz.zeroValue0
 t3:=Tryz.underlying3
 a3:=Tryz.isAgg3
 z3:=Tryz.sizeOf3
 v3:=Tryz.zeroValue3
 t4:=Tryz.underlying4
 a4:=Tryz.isAgg4
 z4:=Tryz.sizeOf4
 v4:=Tryz.zeroValue4
 t9:=Tryz.underlying9
 a9:=Tryz.isAgg9
 z9:=Tryz.sizeOf9
 v9:=Tryz.zeroValue9
 t20:=Tryz.underlying20
 a20:=Tryz.isAgg20
 z20:=Tryz.sizeOf20
 v20:=Tryz.zeroValue20
 t31:=Tryz.underlying61
 a31:=Tryz.isAgg61
 z31:=Tryz.sizeOf61
 v31:=Tryz.zeroValue61
 t37:=Tryz.underlying138
 a37:=Tryz.isAgg138
 z37:=Tryz.sizeOf138
 v37:=Tryz.zeroValue138
 t70:=Tryz.underlying137
 a70:=Tryz.isAgg137
 z70:=Tryz.sizeOf137
 v70:=Tryz.zeroValue137
 t72:=Tryz.underlying140
 a72:=Tryz.isAgg140
 z72:=Tryz.sizeOf140
 v72:=Tryz.zeroValue140
 t75:=Tryz.underlying142
 a75:=Tryz.isAgg142
 z75:=Tryz.sizeOf142
 v75:=Tryz.zeroValue142
 t76:=Tryz.underlying143
 a76:=Tryz.isAgg143
 z76:=Tryz.sizeOf143
 v76:=Tryz.zeroValue143
 t127:=Tryz.underlying224
 a127:=Tryz.isAgg224
 z127:=Tryz.sizeOf224
 v127:=Tryz.zeroValue224
 t164:=Tryz.underlying293
 a164:=Tryz.isAgg293
 z164:=Tryz.sizeOf293
 v164:=Tryz.zeroValue293 }
theorem zV15:Builder.Extra Tryz.prog zn8:={
 sizeBuilder:=by kernel_rfl
 liesBuilder:=by kernel_rfl
 t5:=Tryz.underlying5
 a5:=Tryz.isAgg5
 z5:=Tryz.sizeOf5
 v5:=Tryz.zeroValue5
 infoByte:=by kernel_rfl
 cellsByte:=by kernel_rfl
 sizeByte:=by kernel_rfl
 neB5:=by decide }
def zM10:Go.Shelf.Ren:=⟨fun|146=>90|221=>153|268=>239|138=>240|143=>228|195=>305|197=>299|218=>306|219=>238|260=>356|217=>288|225=>302|224=>303|267=>304|266=>349|314=>359|n=>n,fun|9=>9|31=>61|3=>3|4=>4|0=>0|105=>368|21=>21|5=>5|46=>211|119=>449|139=>452|138=>451|146=>275|51=>274|n=>n,fun|1=>0|3=>4|4=>5|n=>n⟩
theorem splitL:Go.Proofs.Lays.n146 Tryz.prog zM10:={
 mixed:=by kernel_rfl
 f138:=Tryz.func240.trans (congrArg some (by kernel_rfl))
 f143:=Tryz.func228.trans (congrArg some (by kernel_rfl))
 f146:=Tryz.func90.trans (congrArg some (by kernel_rfl))
 f195:=Tryz.func305.trans (congrArg some (by kernel_rfl))
 f197:=Tryz.func299.trans (congrArg some (by kernel_rfl))
 f217:=Tryz.func288.trans (congrArg some (by kernel_rfl))
 f218:=Tryz.func306.trans (congrArg some (by kernel_rfl))
 f219:=Tryz.func238.trans (congrArg some (by kernel_rfl))
 f221:=Tryz.func153.trans (congrArg some (by kernel_rfl))
 f224:=Tryz.func303.trans (congrArg some (by kernel_rfl))
 f225:=Tryz.func302.trans (congrArg some (by kernel_rfl))
 f260:=Tryz.func356.trans (congrArg some (by kernel_rfl))
 f266:=Tryz.func349.trans (congrArg some (by kernel_rfl))
 f267:=Tryz.func304.trans (congrArg some (by kernel_rfl))
 f268:=Tryz.func239.trans (congrArg some (by kernel_rfl))
 f314:=Tryz.func359.trans (congrArg some (by kernel_rfl))
 t0:=Tryz.underlying0
 a0:=Tryz.isAgg0
 z0:=Tryz.sizeOf0
 v0:=Tryz.zeroValue0
 t3:=Tryz.underlying3
 a3:=Tryz.isAgg3
 z3:=Tryz.sizeOf3
 v3:=Tryz.zeroValue3
 t4:=Tryz.underlying4
 a4:=Tryz.isAgg4
 z4:=Tryz.sizeOf4
 v4:=Tryz.zeroValue4
 t5:=Tryz.underlying5
 a5:=Tryz.isAgg5
 z5:=Tryz.sizeOf5
 v5:=Tryz.zeroValue5
 t9:=Tryz.underlying9
 a9:=Tryz.isAgg9
 z9:=Tryz.sizeOf9
 v9:=Tryz.zeroValue9
 t21:=Tryz.underlying21
 a21:=Tryz.isAgg21
 z21:=Tryz.sizeOf21
 v21:=Tryz.zeroValue21
 t31:=Tryz.underlying61
 a31:=Tryz.isAgg61
 z31:=Tryz.sizeOf61
 v31:=Tryz.zeroValue61
 t46:=Tryz.underlying211
 a46:=Tryz.isAgg211
 z46:=Tryz.sizeOf211
 v46:=Tryz.zeroValue211
 t51:=Tryz.underlying274
 a51:=Tryz.isAgg274
 z51:=Tryz.sizeOf274
 v51:=Tryz.zeroValue274
 t105:=Tryz.underlying368
 a105:=Tryz.isAgg368
 z105:=Tryz.sizeOf368
 v105:=Tryz.zeroValue368
 t119:=Tryz.underlying449
 a119:=Tryz.isAgg449
 z119:=Tryz.sizeOf449
 t138:=Tryz.underlying451
 a138:=Tryz.isAgg451
 z138:=Tryz.sizeOf451
 v138:=Tryz.zeroValue451
 t139:=Tryz.underlying452
 a139:=Tryz.isAgg452
 z139:=Tryz.sizeOf452
 v139:=Tryz.zeroValue452
 t146:=Tryz.underlying275
 a146:=Tryz.isAgg275
 z146:=Tryz.sizeOf275
 v146:=Tryz.zeroValue275
 g1:=by kernel_rfl
 g3:=by kernel_rfl
 g4:=by kernel_rfl }
theorem zC17 (V:Value) (ws:List (List UInt8)) (sep:List UInt8) (hl:(Lib.join ws sep).length≤1000000000) (hn:ws.length≤1000000):ACalls Tryz.prog 226 [.c (.r V (wR ws)),.c (T sep)] [] fun u H=>u = .c (T (Lib.join ws sep))∧H = []:=
 zv9 joinL zV15 V ws sep hl hn
theorem zJ11 (s:List UInt8) (c:UInt8) (hs:s.length≤1000000000):ACalls Tryz.prog 90 [.c (T s),.c (T [c])] [] fun u H=>(∃V,u = .c (.r V (wR (spl c s))))∧H = []:=
 zB8 splitL (by kernel_rfl) s c (by omega)
end
section
open Go Go.RowKit
section
variable {P:Program} {N:Nat} {E:Env} {F:Fm} {H:List OB} {o:Oper}
theorem zK2 (X:XW) (hX:∀S ρ a w,R N E S ρ F H a w→X.X w ρ H) {f:FuncId} {fx:Operand} {args:Array Operand} {tys:Array TypeId} {d:Nat} {vs all:List AV} {us:(AV→Value)→List AV} {Qc:(AV→Value)→AV→List OB→Prop} (fz:Bool)
    (hc:∀g,ACallsW X false P f (us g) [] (Qc g)) (ho:o.op = .call { callee:=.value fx,args:=args,argTypes:=tys }) (hfx:Callee' F fx f vs all) (hd:o.dst=some d) (hN:d < N) (hf:okFn P f=true) (hargs:evL F args.toList=some vs)
    (hcv:∀g,CvL g [] H fz all (us g)) (hfl:fz=true→∀g u Hr,Qc g u Hr→FlatA (Known F H) u∧∀o∈Hr,FlatO (Known F H) o) :
    Ef P N E o F H fun F' H'=>∃g u Hr,Qc g u Hr∧F'=(d,u.emb [] H.length) :: F∧H'=H++Hr.map (OB.emb [] H.length):=fun S ρ a w hR=>
 zZ (fun _ _ ⟨S',ρ',F',H',⟨g,u,Hr,_,h1,h2,h3⟩,h4⟩=>⟨S',ρ',F',H',⟨g,u,Hr,h1,by rw[h2];simp[lentK,lentArr,zF],by rw[h3];simp[lentK,lentArr,zJ6]⟩,h4⟩)
  (zu8 X hX false [] (fun _=>[]) fz hc ho hfx hd hN hf hargs hcv List.nodup_nil (fun _=>.nil) hfl (.inl ⟨_,rfl,rfl⟩) S ρ a w hR)
end
section
variable {P:Program} {N:Nat} {E:Env} {F:Fm} {H:List OB} {S:Nat→Prop} {ρ:List (Option Nat)} {a:Act} {w:World}
theorem zt9 {X:XW} (pin:Bool) {f:FuncId} {fn:Func} {c:Code} {args:List AV} {Q:AV→List OB→Prop} (hf:P.funcs[f]?=some fn) (hb:fn.body=some c) (hN:fn.ntmps=N) (hl:args.length≤N) (h:∀E:Env,E.H0.length=H.length→E.pin=pin→(∀F H S ρ a w,R N E S ρ F H a w→X.X w ρ H)→AW P N E c (enumF 0 args) H (ARet P fn H.length Q)):ACallsW X pin P f args H Q:=fun S ρ w hx0 hp hw=>by
 refine calls_of_wp hf hb ?_
 let E:Env:=⟨w,S,ρ,H,pin,none,[]⟩
 have hR:R N E S ρ (enumF 0 args) H { tmps:=(args.map (AV.den ρ H)).toArray++Array.replicate (fn.ntmps - (args.map (AV.den ρ H)).toArray.size) undef,defers:=[] } w:=by
  refine⟨rfl,by simp[hN];omega,fun i x hi=>?_,hp,Stp.refl _ _,fun i B hi=>.inr ⟨by rw[←hp.len];exact zp4 hi,hi⟩,fun b hb=>.inl hb,fun i k B hi=>.inr ⟨i,k,hi⟩,fun i hi=>⟨hi,fun o ho _=>⟨rfl,o,ho,rfl⟩⟩,fun _ i hi=>⟨rfl,rfl,rfl⟩⟩
  obtain⟨_,h2⟩:=zn4 args 0 i x hi
  rw[Nat.sub_zero] at h2
  have hlt:i < args.length:=(List.getElem?_eq_some_iff.1 h2).1
  refine⟨?_,hw x (List.mem_of_getElem? h2)⟩
  rw[Array.getElem?_append_left (by simpa using hlt)]
  simp[h2]
 have hXX:∀F H2 S2 ρ2 a2 w2,R N E S2 ρ2 F H2 a2 w2→X.X w2 ρ2 H2:=fun F H2 S2 ρ2 a2 w2 h2=>
  X.step hx0 h2.st (fun i B hi=>(h2.nw i B hi).imp id fun h=>⟨i,h.2⟩) h2.pw
 refine wp_mono (wpIn_wide.1 (h E rfl rfl hXX S ρ _ w hR 0)) fun e a' w' hh=>?_
 obtain⟨S',ρ',F',H',hq,hR'⟩:=hh
 have hx:=hq.1
 have hfin:=zL8 (E:=E) hq hR'
 rcases hx with rfl|rfl
 ·exact⟨hR'.df,hfin⟩
 ·exact⟨hR'.df,hfin⟩
theorem zG4 {X:XW} (_:True) (pin:Bool) {f:FuncId} {fn:Func} {c:Code} {args:List AV} {Q:AV→List OB→Prop} (hf:P.funcs[f]?=some fn) (hb:fn.body=some c) (hN:fn.ntmps=N) (hl:args.length≤N) (h:∀E:Env,E.H0.length=([]:List OB).length→E.pin=pin→(∀F H S ρ a w,R N E S ρ F H a w→X.X w ρ H)→AW P N E c (enumF 0 args) [] (ARet P fn ([]:List OB).length Q)):ACallsW X pin P f args [] Q:=zt9 pin hf hb hN hl h
end
end
section
open Go Go.RowKit
section
variable {P:Program} {N:Nat} {E:Env} {F:Fm} {H:List OB} {o:Oper} {S:Nat→Prop} {ρ:List (Option Nat)} {a:Act} {w:World} {t:TypeId} {x y:Operand}
theorem zy14 {f:FuncId} {fn:Func} {args:Array Operand} {tys:Array TypeId} {vs:List AV} {us:List Value} {r:Value} {e:Array Value→Sem Value} (ho:o.op = .call { callee:=.value (.func f),args:=args,argTypes:=tys }) (hargs:evL F args.toList=some vs) (hus:∀ρ H,vs.map (AV.den ρ H)=us)
    (hf:P.funcs[f]?=some fn) (hname:(fn.name == "runtime.NumGoroutine")=false) (hb:fn.body.isNone=true) (hn:Extern.findNext fn=none) (he:Extern.find fn=some e) (hr:∀w,(e us.toArray).run P w = .ok r w):Rd P N E o F H (.c (.s r)):=fun S ρ a w hR=>by
 obtain⟨h1,_⟩:=zV4 hR hargs
 rw[hus] at h1
 have h2:args.map a.eval=us.toArray:=by
  apply Array.ext'
  simpa using h1
 refine⟨?_,.c (.s _)⟩
 have h3:a.eval (.func f) = .func (.func f) #[] #[]:=rfl
 simp[execOp,ho,resolve,h2,h3,Deferred.ofValue,invoke,run_callFunc_extern hf hname hb hn he,hr,AV.den,CV.den]
def idxB (c:UInt8):List UInt8→Nat→Int
 | [],_=>-1
 | b :: l,i=>if b=c then i else idxB c l (i+1)
theorem zr8 {l:List UInt8} {c:UInt8}:∀(n i:Nat),i+n=l.length→(match (List.range' i n).find? (fun i=>(bst l)[i]! == c) with|some i=>(i:Int)|none=>-1)=idxB c (l.drop i) i
 | 0,i,h=>by rw[List.drop_eq_nil_of_le (by omega)];rfl
 | n+1,i,h=>by
  have hi:i < l.length:=by omega
  rw[List.drop_eq_getElem_cons hi,List.range'_succ,List.find?_cons]
  have hg:(bst l)[i]! = l[i]:=by
   have h2:i < (bst l).size:=by rw[zu1];exact hi
   rw[getElem!_pos (bst l) i h2]
   rfl
  rw[hg,idxB]
  by_cases hc:l[i]=c
  ·rw[if_pos hc,hc];simp
  ·rw[if_neg hc,show (l[i] == c)=false by simpa using hc]
   exact zr8 n (i+1) (by omega)
theorem zK5 (l:List UInt8) (c:UInt8):firstIdx (bst l) c=idxB c l 0:=by
 have:=zr8 (l:=l) (c:=c) l.length 0 (by omega)
 rw[List.drop_zero] at this
 rw[←this]
 unfold firstIdx
 rw[zu1,List.range_eq_range']
 cases (List.range' 0 l.length).find? fun i=>(bst l)[i]! == c <;> rfl
theorem idxB_neg {c:UInt8}:∀{l:List UInt8} {i:Nat},(0≤idxB c l i↔c∈l)
 | [],i=>by simp[idxB]
 | b :: l,i=>by
  unfold idxB
  split
  ·rename_i h;simp[h]
  ·rename_i h;rw[idxB_neg];simp[Ne.symm h]
end
end
end Go.Proofs.YtophoepbedlhjaaGreatDoor
