/- Reading notes (record.Read), by value. -/
import Derived.Test.YtophoepbedlhjaaGreatDoorQav
import Derived.Test.YtophoepbedlhjaaGreatDoorQay
import Derived.Test.YtophoepbedlhjaaGreatDoorQaw
set_option linter.unusedSimpArgs false
set_option linter.unusedVariables false
-- GAG
namespace Go.Proofs.YtophoepbedlhjaaGreatDoor
open Go Go.RowKit
set_option maxRecDepth 1000000
theorem zb10 (V:Value) (l:List (List UInt8)) (bad:Bool) (hl:∀w∈l,w.length≤1000000):ACalls Tryz.prog 166 [.p 0 0 0] [wbx V l bad] fun u H=>∃V',u = .c (I (nmw l))∧H = [wbx V' l.tail (bad || nbw l)]:=by
 have hw:(l.headD []).length≤1000000:=by
  cases l with
  | nil=>simp
  | cons a l=>exact hl a List.mem_cons_self
 have hem:l.isEmpty=true→numF (l.headD [])=none:=fun h=>by
  cases l with
  | nil=>rfl
  | cons a l=>cases h
 have hkn:=zP13 (l.headD []) hw
 unfold nmw nbw
 generalize hx:numF (l.headD [])=x at hem hkn ⊢
 have hb:(bad || l.isEmpty || !x.isSome)=(bad || x.isNone):=by
  cases x with
  | none=>simp
  | some n=>
   have:l.isEmpty=false:=by
    cases h:l.isEmpty with
    | true=>cases hem h
    | false=>rfl
   simp[this]
 refine zG false (N:=23) Tryz.func166 rfl rfl (by simp) fun E hE hP=>?_
 refine WA ?_
 refine WR ?_
 refine ze rfl (zO [0] (fun _=>[wbx V l bad]) false (fun _=>zx5 V l bad) rfl .fn rfl (by decide) (by kernel_rfl) rfl (fun _g=>.cons (.p rfl) .nil) (by decide) ZCH (by simp)) ?_
 rintro F1 H1 ⟨_,_,_,_,⟨vw1,rfl,rfl⟩,hF,hH⟩
 (refine NSU hF hH ?_;clear hF hH;rintro rfl rfl)
 refine ze rfl (efk (c:=fun _=>hkn)) ?_
 rintro _ _ ⟨_,_,_,⟨rfl,rfl⟩,hF,hH⟩
 (refine NST hF hH ?_;clear hF hH;rintro rfl rfl)
 refine WE ?_
 rw[←hb]
 generalize (bad || l.isEmpty)=b1
 cases b1 with
 | true=>
  cases x with
  | none=>
   refine WA ?_
   refine WA ?_
   exact arg1 [some 0] [wbx vw1 l.tail true] (q:=⟨vw1,rfl,rfl⟩)
  | some n=>
   refine WA ?_
   refine WA ?_
   exact arg1 [some 0] [wbx vw1 l.tail true] (q:=⟨vw1,rfl,rfl⟩)
 | false=>
  cases x with
  | none=>
   refine WA ?_
   refine WA ?_
   exact arg1 [some 0] [wbx vw1 l.tail true] (q:=⟨vw1,rfl,rfl⟩)
  | some n=>
   refine WA ?_
   refine WA ?_
   exact arg1 [some 0] [wbx vw1 l.tail false] (q:=⟨vw1,rfl,rfl⟩)
theorem zR13 (V:Value) (w:List UInt8):ACalls Tryz.prog 167 [.c (.r V (wR kwL)),.c (T w)] [] fun u H=>u = .c (I (kwI w))∧H = []:=by
 rw[←zR15]
 exact zy13 V kwL w (by decide)
theorem tlw {P:List UInt8→Prop} {l:List (List UInt8)} (h:∀w∈l,P w):∀w∈l.tail,P w:=fun w hw=>h w (List.mem_of_mem_tail hw)
theorem zu13 {s:List UInt8} (hl:s.length≤1000000) (h:wrdsF s=none):ACalls Tryz.prog 140 [.c (T s)] [] fun u H=>(∃V,u = .t [.c (.r V []),.c (B false)])∧H = []:=by
 have:=zD11 s hl
 rw[h] at this
 exact this
theorem zt13 {s:List UInt8} {l:List (List UInt8)} (hl:s.length≤1000000) (h:wrdsF s=some l):ACalls Tryz.prog 140 [.c (T s)] [] fun u H=>(∃V,u = .t [.c (.r V (wR l)),.c (B true)])∧H = []:=by
 have:=zD11 s hl
 rw[h] at this
 exact this
set_option maxHeartbeats 2000000 in
theorem zU10 (s:List UInt8) (hl:s.length≤1000000):ACalls Tryz.prog 99 [.c (T s)] [] fun u H=>∃x:Nt,u = .t [noA x,.c (B (rnF s).isSome)]∧(∀y,rnF s=some y→x=y)∧H = []:=by
 refine zf (N:=81) Tryz.func99 rfl rfl (by simp) fun E hE=>?_
 cases hws:wrdsF s with
 | none=>
  have hr:rnF s=none:=by unfold rnF;rw[hws];rfl
  rw[hr]
  refine WA ?_
  refine WR ?_
  refine ze rfl (efk (c:=fun _=>zu13 hl hws)) ?_
  rintro _ _ ⟨_,_,_,⟨⟨vl,rfl⟩,rfl⟩,hF,hH⟩
  (refine NST hF hH ?_;clear hF hH;rintro rfl rfl)
  refine WE ?_
  refine WA ?_
  refine zb rfl ?_
  refine WA ?_
  exact zA (us:=[.a [.c (T []),.c (I 0),.c (I 0),.c (I 0),.c (T []),.c (T []),.c (T []),.c (I 0),.c (T []),.c (I 0)],.c (B false)]) [] (fun _=>.t [.a [.c (T []),.c (I 0),.c (I 0),.c (I 0),.c (T []),.c (T []),.c (T []),.c (I 0),.c (T []),.c (I 0)],.c (B false)]) (fun _=>[]) (.cella (n:=10) rfl (by kernel_rfl) (Cells.box rfl) (by simp) (by(try simp only[nm,putL,Nat.reduceAdd,cellsOf,cvOf]) <;> rfl) (.tmp rfl .nil)) (by decide) (ZNK rfl) (fun _=>.tL (.cons (.aL (C0 rfl)) (.cons (.c rfl) .nil))) ZCH (fun _=>⟨⟨[],0,0,0,[],[],[],0,[],0⟩,rfl,fun y hy=>(by cases hy),rfl⟩)
 | some l=>
  have he1:rnF s=rwF l:=by unfold rnF;rw[hws];rfl
  have hlw:∀w∈l,w.length≤1000000:=fun w hw=>by
   unfold wrdsF at hws
   split at hws
   ·cases hws
   ·injection hws with hws
    subst hws
    have:=(zj7 (c:=32) _ s rfl w hw).2.1
    omega
  have hbd:=zz17 (hdw l.tail.tail.tail)
  refine WA ?_
  refine WR ?_
  refine ze rfl (efk (c:=fun _=>zt13 hl hws)) ?_
  rintro _ _ ⟨_,_,_,⟨⟨vl,rfl⟩,rfl⟩,hF,hH⟩
  (refine NST hF hH ?_;clear hF hH;rintro rfl rfl)
  refine WE ?_
  refine WA ?_
  refine za rfl ?_
  refine WA ?_
  refine WR ?_
  refine ze rfl (zO [1] (fun _=>[wbx vl (l) (false)]) false (fun _=>zx5 vl (l) (false)) rfl .fn rfl (by decide) (by kernel_rfl) rfl (fun _g=>.cons (.p rfl) .nil) (by decide) ZCH (by simp) (.inl ⟨_,hE,rfl⟩)) ?_
  rintro F1 H1 ⟨_,_,_,_,⟨va1,rfl,rfl⟩,hF,hH⟩
  (refine NSU hF hH ?_;clear hF hH;rintro rfl rfl)
  refine WO ?_
  refine ze rfl (zO [1] (fun _=>[wbx va1 (l.tail) (or false l.isEmpty)]) false (fun _=>zb10 va1 (l.tail) (or false l.isEmpty) (tlw hlw)) rfl .fn rfl (by decide) (by kernel_rfl) rfl (fun _g=>.cons (.p rfl) .nil) (by decide) ZCH (by simp) (.inl ⟨_,hE,rfl⟩)) ?_
  rintro F1 H1 ⟨_,_,_,_,⟨va2,rfl,rfl⟩,hF,hH⟩
  (refine NSU hF hH ?_;clear hF hH;rintro rfl rfl)
  refine WO ?_
  refine ze rfl (zO [1] (fun _=>[wbx va2 (l.tail.tail) (or (or false l.isEmpty) (nbw l.tail))]) false (fun _=>zb10 va2 (l.tail.tail) (or (or false l.isEmpty) (nbw l.tail)) (tlw (tlw hlw))) rfl .fn rfl (by decide) (by kernel_rfl) rfl (fun _g=>.cons (.p rfl) .nil) (by decide) ZCH (by simp) (.inl ⟨_,hE,rfl⟩)) ?_
  rintro F1 H1 ⟨_,_,_,_,⟨va3,rfl,rfl⟩,hF,hH⟩
  (refine NSU hF hH ?_;clear hF hH;rintro rfl rfl)
  refine ze rfl (efk (c:=fun _=>zD5)) ?_
  rintro _ _ ⟨_,_,_,⟨⟨vk,rfl⟩,rfl⟩,hF,hH⟩
  (refine NST hF hH ?_;clear hF hH;rintro rfl rfl)
  refine WO ?_
  refine ze rfl (zO [1] (fun _=>[wbx va3 (l.tail.tail.tail) (or (or (or false l.isEmpty) (nbw l.tail)) (nbw l.tail.tail))]) false (fun _=>zx5 va3 (l.tail.tail.tail) (or (or (or false l.isEmpty) (nbw l.tail)) (nbw l.tail.tail))) rfl .fn rfl (by decide) (by kernel_rfl) rfl (fun _g=>.cons (.p rfl) .nil) (by decide) ZCH (by simp) (.inl ⟨_,hE,rfl⟩)) ?_
  rintro F1 H1 ⟨_,_,_,_,⟨va4,rfl,rfl⟩,hF,hH⟩
  (refine NSU hF hH ?_;clear hF hH;rintro rfl rfl)
  refine ze rfl (efk (c:=fun _=>zR13 _ _)) ?_
  rintro _ _ ⟨_,_,_,⟨rfl,rfl⟩,hF,hH⟩
  (refine NST hF hH ?_;clear hF hH;rintro rfl rfl)
  refine WE ?_
  change AW _ _ _ _ _ [_,wbx va4 (t4w l) (b4 l),_] _
  by_cases hk1:kwI (hdw l.tail.tail.tail) < 1
  ·rw[he1,zU16 (by omega)]
   refine WA ?_
   refine zb rfl ?_
   refine WA ?_
   exact zA (us:=[.a [.c (T []),.c (I 0),.c (I 0),.c (I 0),.c (T []),.c (T []),.c (T []),.c (I 0),.c (T []),.c (I 0)],.c (B false)]) [] (fun _=>.t [.a [.c (T []),.c (I 0),.c (I 0),.c (I 0),.c (T []),.c (T []),.c (T []),.c (I 0),.c (T []),.c (I 0)],.c (B false)]) (fun _=>[]) (.cella (n:=10) rfl (by kernel_rfl) (Cells.box rfl) (by simp) (by(try simp only[nm,putL,Nat.reduceAdd,cellsOf,cvOf]) <;> rfl) (.tmp rfl .nil)) (by decide) (ZNK rfl) (fun _=>.tL (.cons (.aL (C0 rfl)) (.cons (.c rfl) .nil))) ZCH (fun _=>⟨⟨[],0,0,0,[],[],[],0,[],0⟩,rfl,fun y hy=>(by cases hy),rfl⟩)
  ·have hl4:∀w∈t4w l,w.length≤1000000:=tlw (tlw (tlw (tlw hlw)))
   generalize hkk:kwI (hdw l.tail.tail.tail)=k at hk1 hbd ⊢
   refine WA ?_
   refine za rfl ?_
   refine WR ?_
   refine ze rfl (efk (c:=fun _=>zI6 k)) ?_
   rintro _ _ ⟨_,_,_,⟨rfl,rfl⟩,hF,hH⟩
   rw[show usA k = .a [.c (B (uP k)),.c (B (uJ k)),.c (B (uS k)),.c (B (uU k)),.c (I (uM k))] from rfl] at hF
   (refine NST hF hH ?_;clear hF hH;rintro rfl rfl)
   refine WE ?_
   refine WA ?_
   refine zE1 (fun F H=>∃(vz:Value) (x1:List UInt8) (l1:List (List UInt8)) (c1:Bool),stN (uP k) ((t4w l),(b4 l))=(x1,l1,c1)∧(∀w∈l1,w.length≤1000000)∧F = [(2,.p 0 0 0),(6,.p 1 0 0),(7,.p 2 0 0),(8,.p 3 0 0)]∧H = [.box [.c (T []),.c (I 0),.c (I 0),.c (I 0),.c (T []),.c (T []),.c (T []),.c (I 0),.c (T []),.c (I 0)],wbx vz l1 c1,.box [.c (T (hdw l)),.c (I (nmw l.tail)),.c (I (nmw l.tail.tail)),.c (I k),.c (T x1),.c (T []),.c (T []),.c (I 0),.c (T []),.c (I 0)],.box [.c (B (uP k)),.c (B (uJ k)),.c (B (uS k)),.c (B (uU k)),.c (I (uM k))]]) ?_ ?_ zV2
   ·cases hq:uP k with
    | true=>
     refine zb rfl ?_
     refine WR ?_
     refine ze rfl (zO [1] (fun _=>[wbx va4 ((t4w l)) ((b4 l))]) false (fun _=>zx5 va4 ((t4w l)) ((b4 l))) rfl .fn rfl (by decide) (by kernel_rfl) rfl (fun _g=>.cons (.p rfl) .nil) (by decide) ZCH (by simp) (.inl ⟨_,hE,rfl⟩)) ?_
     rintro F1 H1 ⟨_,_,_,_,⟨vn,rfl,rfl⟩,hF,hH⟩
     (refine NSU hF hH ?_;clear hF hH;rintro rfl rfl)
     refine WE ?_
     exact wkg [some 0,some 1,some 2,some 3] (fun _=>[(2,.p 0 0 0),(6,.p 1 0 0),(7,.p 2 0 0),(8,.p 3 0 0)]) (fun _=>[.box [.c (T []),.c (I 0),.c (I 0),.c (I 0),.c (T []),.c (T []),.c (T []),.c (I 0),.c (T []),.c (I 0)],wbx vn (t4w l).tail (or (b4 l) (t4w l).isEmpty),.box [.c (T (hdw l)),.c (I (nmw l.tail)),.c (I (nmw l.tail.tail)),.c (I k),.c (T (hdw (t4w l))),.c (T []),.c (T []),.c (I 0),.c (T []),.c (I 0)],.box [.c (B (true)),.c (B (uJ k)),.c (B (uS k)),.c (B (uU k)),.c (I (uM k))]]) (fun _=>⟨vn,_,_,_,rfl,tlw hl4,rfl,rfl⟩)
    | false=>
     refine za rfl ?_
     refine ZZ ?_
     exact wkg [some 0,some 1,some 2,some 3] (fun _=>[(2,.p 0 0 0),(6,.p 1 0 0),(7,.p 2 0 0),(8,.p 3 0 0)]) (fun _=>[.box [.c (T []),.c (I 0),.c (I 0),.c (I 0),.c (T []),.c (T []),.c (T []),.c (I 0),.c (T []),.c (I 0)],wbx va4 (t4w l) (b4 l),.box [.c (T (hdw l)),.c (I (nmw l.tail)),.c (I (nmw l.tail.tail)),.c (I k),.c (T []),.c (T []),.c (T []),.c (I 0),.c (T []),.c (I 0)],.box [.c (B (false)),.c (B (uJ k)),.c (B (uS k)),.c (B (uU k)),.c (I (uM k))]]) (fun _=>⟨va4,_,_,_,rfl,hl4,rfl,rfl⟩)
   rintro F H ⟨vx1,x1,l1,c1,e1,hl5,rfl,rfl⟩
   refine WA ?_
   refine zE1 (fun F H=>∃(vz:Value) (x2:List UInt8) (l2:List (List UInt8)) (c2:Bool),stN (uJ k) (l1,c1)=(x2,l2,c2)∧(∀w∈l2,w.length≤1000000)∧F = [(2,.p 0 0 0),(6,.p 1 0 0),(7,.p 2 0 0),(8,.p 3 0 0)]∧H = [.box [.c (T []),.c (I 0),.c (I 0),.c (I 0),.c (T []),.c (T []),.c (T []),.c (I 0),.c (T []),.c (I 0)],wbx vz l2 c2,.box [.c (T (hdw l)),.c (I (nmw l.tail)),.c (I (nmw l.tail.tail)),.c (I k),.c (T x1),.c (T x2),.c (T []),.c (I 0),.c (T []),.c (I 0)],.box [.c (B (uP k)),.c (B (uJ k)),.c (B (uS k)),.c (B (uU k)),.c (I (uM k))]]) ?_ ?_ zV2
   ·cases hq:uJ k with
    | true=>
     refine zb rfl ?_
     refine WR ?_
     refine ze rfl (zO [1] (fun _=>[wbx vx1 (l1) (c1)]) false (fun _=>zx5 vx1 (l1) (c1)) rfl .fn rfl (by decide) (by kernel_rfl) rfl (fun _g=>.cons (.p rfl) .nil) (by decide) ZCH (by simp) (.inl ⟨_,hE,rfl⟩)) ?_
     rintro F1 H1 ⟨_,_,_,_,⟨vn,rfl,rfl⟩,hF,hH⟩
     (refine NSU hF hH ?_;clear hF hH;rintro rfl rfl)
     refine WE ?_
     exact wkg [some 0,some 1,some 2,some 3] (fun _=>[(2,.p 0 0 0),(6,.p 1 0 0),(7,.p 2 0 0),(8,.p 3 0 0)]) (fun _=>[.box [.c (T []),.c (I 0),.c (I 0),.c (I 0),.c (T []),.c (T []),.c (T []),.c (I 0),.c (T []),.c (I 0)],wbx vn l1.tail (or c1 l1.isEmpty),.box [.c (T (hdw l)),.c (I (nmw l.tail)),.c (I (nmw l.tail.tail)),.c (I k),.c (T x1),.c (T (hdw l1)),.c (T []),.c (I 0),.c (T []),.c (I 0)],.box [.c (B (uP k)),.c (B (true)),.c (B (uS k)),.c (B (uU k)),.c (I (uM k))]]) (fun _=>⟨vn,_,_,_,rfl,tlw hl5,rfl,rfl⟩)
    | false=>
     refine za rfl ?_
     refine ZZ ?_
     exact wkg [some 0,some 1,some 2,some 3] (fun _=>[(2,.p 0 0 0),(6,.p 1 0 0),(7,.p 2 0 0),(8,.p 3 0 0)]) (fun _=>[.box [.c (T []),.c (I 0),.c (I 0),.c (I 0),.c (T []),.c (T []),.c (T []),.c (I 0),.c (T []),.c (I 0)],wbx vx1 l1 c1,.box [.c (T (hdw l)),.c (I (nmw l.tail)),.c (I (nmw l.tail.tail)),.c (I k),.c (T x1),.c (T []),.c (T []),.c (I 0),.c (T []),.c (I 0)],.box [.c (B (uP k)),.c (B (false)),.c (B (uS k)),.c (B (uU k)),.c (I (uM k))]]) (fun _=>⟨vx1,_,_,_,rfl,hl5,rfl,rfl⟩)
   rintro F H ⟨vx2,x2,l2,c2,e2,hl6,rfl,rfl⟩
   refine WA ?_
   refine zE1 (fun F H=>∃(vz:Value) (x3:List UInt8) (l3:List (List UInt8)) (c3:Bool),stN (uS k) (l2,c2)=(x3,l3,c3)∧(∀w∈l3,w.length≤1000000)∧F = [(2,.p 0 0 0),(6,.p 1 0 0),(7,.p 2 0 0),(8,.p 3 0 0)]∧H = [.box [.c (T []),.c (I 0),.c (I 0),.c (I 0),.c (T []),.c (T []),.c (T []),.c (I 0),.c (T []),.c (I 0)],wbx vz l3 c3,.box [.c (T (hdw l)),.c (I (nmw l.tail)),.c (I (nmw l.tail.tail)),.c (I k),.c (T x1),.c (T x2),.c (T x3),.c (I 0),.c (T []),.c (I 0)],.box [.c (B (uP k)),.c (B (uJ k)),.c (B (uS k)),.c (B (uU k)),.c (I (uM k))]]) ?_ ?_ zV2
   ·cases hq:uS k with
    | true=>
     refine zb rfl ?_
     refine WR ?_
     refine ze rfl (zO [1] (fun _=>[wbx vx2 (l2) (c2)]) false (fun _=>zx5 vx2 (l2) (c2)) rfl .fn rfl (by decide) (by kernel_rfl) rfl (fun _g=>.cons (.p rfl) .nil) (by decide) ZCH (by simp) (.inl ⟨_,hE,rfl⟩)) ?_
     rintro F1 H1 ⟨_,_,_,_,⟨vn,rfl,rfl⟩,hF,hH⟩
     (refine NSU hF hH ?_;clear hF hH;rintro rfl rfl)
     refine WE ?_
     exact wkg [some 0,some 1,some 2,some 3] (fun _=>[(2,.p 0 0 0),(6,.p 1 0 0),(7,.p 2 0 0),(8,.p 3 0 0)]) (fun _=>[.box [.c (T []),.c (I 0),.c (I 0),.c (I 0),.c (T []),.c (T []),.c (T []),.c (I 0),.c (T []),.c (I 0)],wbx vn l2.tail (or c2 l2.isEmpty),.box [.c (T (hdw l)),.c (I (nmw l.tail)),.c (I (nmw l.tail.tail)),.c (I k),.c (T x1),.c (T x2),.c (T (hdw l2)),.c (I 0),.c (T []),.c (I 0)],.box [.c (B (uP k)),.c (B (uJ k)),.c (B (true)),.c (B (uU k)),.c (I (uM k))]]) (fun _=>⟨vn,_,_,_,rfl,tlw hl6,rfl,rfl⟩)
    | false=>
     refine za rfl ?_
     refine ZZ ?_
     exact wkg [some 0,some 1,some 2,some 3] (fun _=>[(2,.p 0 0 0),(6,.p 1 0 0),(7,.p 2 0 0),(8,.p 3 0 0)]) (fun _=>[.box [.c (T []),.c (I 0),.c (I 0),.c (I 0),.c (T []),.c (T []),.c (T []),.c (I 0),.c (T []),.c (I 0)],wbx vx2 l2 c2,.box [.c (T (hdw l)),.c (I (nmw l.tail)),.c (I (nmw l.tail.tail)),.c (I k),.c (T x1),.c (T x2),.c (T []),.c (I 0),.c (T []),.c (I 0)],.box [.c (B (uP k)),.c (B (uJ k)),.c (B (false)),.c (B (uU k)),.c (I (uM k))]]) (fun _=>⟨vx2,_,_,_,rfl,hl6,rfl,rfl⟩)
   rintro F H ⟨vx3,x3,l3,c3,e3,hl7,rfl,rfl⟩
   refine WA ?_
   refine zE1 (fun F H=>∃(vz:Value) (x4:Int) (l4:List (List UInt8)) (c4:Bool),stM (decide (0 < uM k)) (l3,c3)=(x4,l4,c4)∧(∀w∈l4,w.length≤1000000)∧F = [(2,.p 0 0 0),(6,.p 1 0 0),(7,.p 2 0 0),(8,.p 3 0 0)]∧H = [.box [.c (T []),.c (I 0),.c (I 0),.c (I 0),.c (T []),.c (T []),.c (T []),.c (I 0),.c (T []),.c (I 0)],wbx vz l4 c4,.box [.c (T (hdw l)),.c (I (nmw l.tail)),.c (I (nmw l.tail.tail)),.c (I k),.c (T x1),.c (T x2),.c (T x3),.c (I x4),.c (T []),.c (I 0)],.box [.c (B (uP k)),.c (B (uJ k)),.c (B (uS k)),.c (B (uU k)),.c (I (uM k))]]) ?_ ?_ zV2
   ·refine zl rfl (fun hq=>?_) (fun hq=>?_)
    ·rw[decide_eq_true hq]
     refine WR ?_
     refine ze rfl (zO [1] (fun _=>[wbx vx3 (l3) (c3)]) false (fun _=>zb10 vx3 (l3) (c3) (hl7)) rfl .fn rfl (by decide) (by kernel_rfl) rfl (fun _g=>.cons (.p rfl) .nil) (by decide) ZCH (by simp) (.inl ⟨_,hE,rfl⟩)) ?_
     rintro F1 H1 ⟨_,_,_,_,⟨vn,rfl,rfl⟩,hF,hH⟩
     (refine NSU hF hH ?_;clear hF hH;rintro rfl rfl)
     refine WE ?_
     exact wkg [some 0,some 1,some 2,some 3] (fun _=>[(2,.p 0 0 0),(6,.p 1 0 0),(7,.p 2 0 0),(8,.p 3 0 0)]) (fun _=>[.box [.c (T []),.c (I 0),.c (I 0),.c (I 0),.c (T []),.c (T []),.c (T []),.c (I 0),.c (T []),.c (I 0)],wbx vn l3.tail (or c3 (nbw l3)),.box [.c (T (hdw l)),.c (I (nmw l.tail)),.c (I (nmw l.tail.tail)),.c (I k),.c (T x1),.c (T x2),.c (T x3),.c (I (nmw l3)),.c (T []),.c (I 0)],.box [.c (B (uP k)),.c (B (uJ k)),.c (B (uS k)),.c (B (uU k)),.c (I (uM k))]]) (fun _=>⟨vn,_,_,_,rfl,tlw hl7,rfl,rfl⟩)
    ·rw[decide_eq_false hq]
     refine ZZ ?_
     exact wkg [some 0,some 1,some 2,some 3] (fun _=>[(2,.p 0 0 0),(6,.p 1 0 0),(7,.p 2 0 0),(8,.p 3 0 0)]) (fun _=>[.box [.c (T []),.c (I 0),.c (I 0),.c (I 0),.c (T []),.c (T []),.c (T []),.c (I 0),.c (T []),.c (I 0)],wbx vx3 l3 c3,.box [.c (T (hdw l)),.c (I (nmw l.tail)),.c (I (nmw l.tail.tail)),.c (I k),.c (T x1),.c (T x2),.c (T x3),.c (I 0),.c (T []),.c (I 0)],.box [.c (B (uP k)),.c (B (uJ k)),.c (B (uS k)),.c (B (uU k)),.c (I (uM k))]]) (fun _=>⟨vx3,_,_,_,rfl,hl7,rfl,rfl⟩)
   rintro F H ⟨vx4,x4,l4,c4,e4,hl8,rfl,rfl⟩
   refine WA ?_
   refine zE1 (fun F H=>∃(vz:Value) (x5:List UInt8) (x6:Int) (l5 l6:List (List UInt8)) (c5 c6:Bool),stN (uU k) (l4,c4)=(x5,l5,c5)∧stM (uU k) (l5,c5)=(x6,l6,c6)∧F = [(2,.p 0 0 0),(6,.p 1 0 0),(7,.p 2 0 0)]∧H = [.box [.c (T []),.c (I 0),.c (I 0),.c (I 0),.c (T []),.c (T []),.c (T []),.c (I 0),.c (T []),.c (I 0)],wbx vz l6 c6,.box [.c (T (hdw l)),.c (I (nmw l.tail)),.c (I (nmw l.tail.tail)),.c (I k),.c (T x1),.c (T x2),.c (T x3),.c (I x4),.c (T x5),.c (I x6)]]) ?_ ?_ zV2
   ·cases hq:uU k with
    | true=>
     refine zb rfl ?_
     refine WR ?_
     refine ze rfl (zO [1] (fun _=>[wbx vx4 (l4) (c4)]) false (fun _=>zx5 vx4 (l4) (c4)) rfl .fn rfl (by decide) (by kernel_rfl) rfl (fun _g=>.cons (.p rfl) .nil) (by decide) ZCH (by simp) (.inl ⟨_,hE,rfl⟩)) ?_
     rintro F1 H1 ⟨_,_,_,_,⟨vn,rfl,rfl⟩,hF,hH⟩
     (refine NSU hF hH ?_;clear hF hH;rintro rfl rfl)
     refine WO ?_
     refine ze rfl (zO [1] (fun _=>[wbx vn (l4.tail) (or c4 l4.isEmpty)]) false (fun _=>zb10 vn (l4.tail) (or c4 l4.isEmpty) (tlw hl8)) rfl .fn rfl (by decide) (by kernel_rfl) rfl (fun _g=>.cons (.p rfl) .nil) (by decide) ZCH (by simp) (.inl ⟨_,hE,rfl⟩)) ?_
     rintro F1 H1 ⟨_,_,_,_,⟨vo,rfl,rfl⟩,hF,hH⟩
     (refine NSU hF hH ?_;clear hF hH;rintro rfl rfl)
     refine WE ?_
     exact wkg [some 0,some 1,some 2] (fun _=>[(2,.p 0 0 0),(6,.p 1 0 0),(7,.p 2 0 0)]) (fun _=>[.box [.c (T []),.c (I 0),.c (I 0),.c (I 0),.c (T []),.c (T []),.c (T []),.c (I 0),.c (T []),.c (I 0)],wbx vo l4.tail.tail (or (or c4 l4.isEmpty) (nbw l4.tail)),.box [.c (T (hdw l)),.c (I (nmw l.tail)),.c (I (nmw l.tail.tail)),.c (I k),.c (T x1),.c (T x2),.c (T x3),.c (I x4),.c (T (hdw l4)),.c (I (nmw l4.tail))]]) (fun _=>⟨vo,_,_,_,_,_,_,rfl,rfl,rfl,rfl⟩)
    | false=>
     refine za rfl ?_
     refine ZZ ?_
     exact wkg [some 0,some 1,some 2] (fun _=>[(2,.p 0 0 0),(6,.p 1 0 0),(7,.p 2 0 0)]) (fun _=>[.box [.c (T []),.c (I 0),.c (I 0),.c (I 0),.c (T []),.c (T []),.c (T []),.c (I 0),.c (T []),.c (I 0)],wbx vx4 l4 c4,.box [.c (T (hdw l)),.c (I (nmw l.tail)),.c (I (nmw l.tail.tail)),.c (I k),.c (T x1),.c (T x2),.c (T x3),.c (I x4),.c (T []),.c (I 0)]]) (fun _=>⟨vx4,_,_,_,_,_,_,rfl,rfl,rfl,rfl⟩)
   rintro F H ⟨vx5,x5,x6,l5,l6,c5,c6,e5,e6,rfl,rfl⟩
   obtain⟨f1,f2⟩:=zW16 l hkk (by omega) (by omega) e1 e2 e3 e4 e5 e6
   rw[he1,←f1]
   clear f1 e1 e2 e3 e4 e5 e6
   cases c6 with
   | true=>
    refine ZZ ?_
    refine zd [(0,none),(1,none),(2,none),(3,none),(4,none),(5,none),(6,none),(7,none),(8,none),(9,none),(10,none),(11,none),(12,none),(13,none),(14,some [7,8,9,10,11,12,13]),(15,none)] zn (by kernel_rfl) ?_
    iterate 14 refine WX2 ?_
    first|refine ZF rfl (Zsto (KS (t:=37) rfl)) (zg (by first|exact zi1 rfl rfl rfl rfl|exact zH rfl rfl rfl (zd3 rfl rfl) rfl) (zg (by first|exact zi1 rfl rfl rfl rfl|exact zH rfl rfl rfl (zk5 rfl rfl) rfl|exact zH rfl rfl rfl (zI3 rfl rfl) rfl) (zg (by first|exact zi1 rfl rfl rfl rfl|exact zH rfl rfl rfl (ZX (KF (t:=237) (f:=0) rfl rfl)) rfl) (zg (by first|exact zi1 rfl rfl rfl rfl|exact zH rfl rfl rfl (ZL (KK (t:=61) rfl)) rfl) (zg (by first|exact zi1 rfl rfl rfl rfl|exact zH rfl rfl rfl (Zlen (KE (t:=61) rfl)) rfl) (zg (by first|exact zi1 rfl rfl rfl rfl|exact zH rfl rfl rfl (Zeql) rfl) (zg (by first|exact zu rfl rfl rfl (zk1 rfl rfl rfl) rfl|exact zu rfl rfl rfl (zl1 rfl rfl rfl) rfl) (zh)))))))) ?_|refine ZF rfl (Zstr (KS (t:=37) rfl)) (zg (by first|exact zi1 rfl rfl rfl rfl|exact zH rfl rfl rfl (zd3 rfl rfl) rfl) (zg (by first|exact zi1 rfl rfl rfl rfl|exact zH rfl rfl rfl (zk5 rfl rfl) rfl|exact zH rfl rfl rfl (zI3 rfl rfl) rfl) (zg (by first|exact zi1 rfl rfl rfl rfl|exact zH rfl rfl rfl (ZX (KF (t:=237) (f:=0) rfl rfl)) rfl) (zg (by first|exact zi1 rfl rfl rfl rfl|exact zH rfl rfl rfl (ZL (KK (t:=61) rfl)) rfl) (zg (by first|exact zi1 rfl rfl rfl rfl|exact zH rfl rfl rfl (Zlen (KE (t:=61) rfl)) rfl) (zg (by first|exact zi1 rfl rfl rfl rfl|exact zH rfl rfl rfl (Zeql) rfl) (zg (by first|exact zu rfl rfl rfl (zk1 rfl rfl rfl) rfl|exact zu rfl rfl rfl (zl1 rfl rfl rfl) rfl) (zh)))))))) ?_
    refine WQ ?_
    exact zA (us:=[.a [.c (T (hdw l)),.c (I (nmw l.tail)),.c (I (nmw l.tail.tail)),.c (I k),.c (T x1),.c (T x2),.c (T x3),.c (I x4),.c (T x5),.c (I x6)],.c (B false)]) [] (fun _=>.t [.a [.c (T (hdw l)),.c (I (nmw l.tail)),.c (I (nmw l.tail.tail)),.c (I k),.c (T x1),.c (T x2),.c (T x3),.c (I x4),.c (T x5),.c (I x6)],.c (B false)]) (fun _=>[]) (.cella (n:=10) rfl (by kernel_rfl) (Cells.box rfl) (by simp) (by(try simp only[nm,putL,Nat.reduceAdd,cellsOf,cvOf]) <;> rfl) (.tmp rfl .nil)) (by decide) (ZNK rfl) (fun _=>.tL (.cons (.aL (C0 rfl)) (.cons (.c rfl) .nil))) ZCH (fun _=>⟨⟨hdw l,nmw l.tail,nmw l.tail.tail,k,x1,x2,x3,x4,x5,x6⟩,rfl,f2,rfl⟩)
   | false=>
    cases l6 with
    | nil=>
     refine ZZ ?_
     refine zd [(0,none),(1,none),(2,none),(3,none),(4,none),(5,none),(6,none),(7,none),(8,none),(9,none),(10,none),(11,none),(12,none),(13,none),(14,some [7,8,9,10,11,12,13]),(15,none)] zn (by kernel_rfl) ?_
     iterate 14 refine WX2 ?_
     first|refine ZF rfl (Zsto (KS (t:=37) rfl)) (zg (by first|exact zi1 rfl rfl rfl rfl|exact zH rfl rfl rfl (zd3 rfl rfl) rfl) (zg (by first|exact zi1 rfl rfl rfl rfl|exact zH rfl rfl rfl (zk5 rfl rfl) rfl|exact zH rfl rfl rfl (zI3 rfl rfl) rfl) (zg (by first|exact zi1 rfl rfl rfl rfl|exact zH rfl rfl rfl (ZX (KF (t:=237) (f:=0) rfl rfl)) rfl) (zg (by first|exact zi1 rfl rfl rfl rfl|exact zH rfl rfl rfl (ZL (KK (t:=61) rfl)) rfl) (zg (by first|exact zi1 rfl rfl rfl rfl|exact zH rfl rfl rfl (Zlen (KE (t:=61) rfl)) rfl) (zg (by first|exact zi1 rfl rfl rfl rfl|exact zH rfl rfl rfl (Zeql) rfl) (zg (by first|exact zu rfl rfl rfl (zk1 rfl rfl rfl) rfl|exact zu rfl rfl rfl (zl1 rfl rfl rfl) rfl) (zh)))))))) ?_|refine ZF rfl (Zstr (KS (t:=37) rfl)) (zg (by first|exact zi1 rfl rfl rfl rfl|exact zH rfl rfl rfl (zd3 rfl rfl) rfl) (zg (by first|exact zi1 rfl rfl rfl rfl|exact zH rfl rfl rfl (zk5 rfl rfl) rfl|exact zH rfl rfl rfl (zI3 rfl rfl) rfl) (zg (by first|exact zi1 rfl rfl rfl rfl|exact zH rfl rfl rfl (ZX (KF (t:=237) (f:=0) rfl rfl)) rfl) (zg (by first|exact zi1 rfl rfl rfl rfl|exact zH rfl rfl rfl (ZL (KK (t:=61) rfl)) rfl) (zg (by first|exact zi1 rfl rfl rfl rfl|exact zH rfl rfl rfl (Zlen (KE (t:=61) rfl)) rfl) (zg (by first|exact zi1 rfl rfl rfl rfl|exact zH rfl rfl rfl (Zeql) rfl) (zg (by first|exact zu rfl rfl rfl (zk1 rfl rfl rfl) rfl|exact zu rfl rfl rfl (zl1 rfl rfl rfl) rfl) (zh)))))))) ?_
     refine WQ ?_
     exact zA (us:=[.a [.c (T (hdw l)),.c (I (nmw l.tail)),.c (I (nmw l.tail.tail)),.c (I k),.c (T x1),.c (T x2),.c (T x3),.c (I x4),.c (T x5),.c (I x6)],.c (B true)]) [] (fun _=>.t [.a [.c (T (hdw l)),.c (I (nmw l.tail)),.c (I (nmw l.tail.tail)),.c (I k),.c (T x1),.c (T x2),.c (T x3),.c (I x4),.c (T x5),.c (I x6)],.c (B true)]) (fun _=>[]) (.cella (n:=10) rfl (by kernel_rfl) (Cells.box rfl) (by simp) (by(try simp only[nm,putL,Nat.reduceAdd,cellsOf,cvOf]) <;> rfl) (.tmp rfl .nil)) (by decide) (ZNK rfl) (fun _=>.tL (.cons (.aL (C0 rfl)) (.cons (.c rfl) .nil))) ZCH (fun _=>⟨⟨hdw l,nmw l.tail,nmw l.tail.tail,k,x1,x2,x3,x4,x5,x6⟩,rfl,f2,rfl⟩)
    | cons a0 r0=>
     have hne:¬((wR (a0 :: r0)).length:Int)=0:=by simp;omega
     refine ZZ ?_
     refine zd [(0,none),(1,none),(2,none),(3,none),(4,none),(5,none),(6,none),(7,none),(8,none),(9,none),(10,none),(11,none),(12,none),(13,none),(14,some [7,8,9,10,11,12,13]),(15,none)] zn (by kernel_rfl) ?_
     iterate 14 refine WX2 ?_
     first|refine ZF rfl (Zsto (KS (t:=37) rfl)) (zg (by first|exact zi1 rfl rfl rfl rfl|exact zH rfl rfl rfl (zd3 rfl rfl) rfl) (zg (by first|exact zi1 rfl rfl rfl rfl|exact zH rfl rfl rfl (zk5 rfl rfl) rfl|exact zH rfl rfl rfl (zI3 rfl rfl) rfl) (zg (by first|exact zi1 rfl rfl rfl rfl|exact zH rfl rfl rfl (ZX (KF (t:=237) (f:=0) rfl rfl)) rfl) (zg (by first|exact zi1 rfl rfl rfl rfl|exact zH rfl rfl rfl (ZL (KK (t:=61) rfl)) rfl) (zg (by first|exact zi1 rfl rfl rfl rfl|exact zH rfl rfl rfl (Zlen (KE (t:=61) rfl)) rfl) (zg (by first|exact zi1 rfl rfl rfl rfl|exact zH rfl rfl rfl (Zeql) rfl) (zg (by first|exact zu rfl rfl rfl (zk1 rfl rfl rfl) rfl|exact zu rfl rfl rfl (zl1 rfl rfl rfl) rfl) (zh)))))))) ?_|refine ZF rfl (Zstr (KS (t:=37) rfl)) (zg (by first|exact zi1 rfl rfl rfl rfl|exact zH rfl rfl rfl (zd3 rfl rfl) rfl) (zg (by first|exact zi1 rfl rfl rfl rfl|exact zH rfl rfl rfl (zk5 rfl rfl) rfl|exact zH rfl rfl rfl (zI3 rfl rfl) rfl) (zg (by first|exact zi1 rfl rfl rfl rfl|exact zH rfl rfl rfl (ZX (KF (t:=237) (f:=0) rfl rfl)) rfl) (zg (by first|exact zi1 rfl rfl rfl rfl|exact zH rfl rfl rfl (ZL (KK (t:=61) rfl)) rfl) (zg (by first|exact zi1 rfl rfl rfl rfl|exact zH rfl rfl rfl (Zlen (KE (t:=61) rfl)) rfl) (zg (by first|exact zi1 rfl rfl rfl rfl|exact zH rfl rfl rfl (Zeql) rfl) (zg (by first|exact zu rfl rfl rfl (zk1 rfl rfl rfl) rfl|exact zu rfl rfl rfl (zl1 rfl rfl rfl) rfl) (zh)))))))) ?_
     refine WQ ?_
     exact zA (us:=[.a [.c (T (hdw l)),.c (I (nmw l.tail)),.c (I (nmw l.tail.tail)),.c (I k),.c (T x1),.c (T x2),.c (T x3),.c (I x4),.c (T x5),.c (I x6)],.c (B false)]) [] (fun _=>.t [.a [.c (T (hdw l)),.c (I (nmw l.tail)),.c (I (nmw l.tail.tail)),.c (I k),.c (T x1),.c (T x2),.c (T x3),.c (I x4),.c (T x5),.c (I x6)],.c (B false)]) (fun _=>[]) (.cella (n:=10) rfl (by kernel_rfl) (Cells.box rfl) (by simp) (by(try simp only[nm,putL,Nat.reduceAdd,cellsOf,cvOf]) <;> rfl) (.tmp rfl .nil)) (by decide) (ZNK rfl) (fun _=>.tL (.cons (.aL (C0 rfl)) (.cons (.c rfl) .nil))) ZCH (fun _=>⟨⟨hdw l,nmw l.tail,nmw l.tail.tail,k,x1,x2,x3,x4,x5,x6⟩,rfl,f2,rfl⟩)
end Go.Proofs.YtophoepbedlhjaaGreatDoor
-- NEWM
namespace Go.Proofs.YtophoepbedlhjaaGreatDoor
open Go Go.RowKit
set_option maxRecDepth 1000000
theorem ze18 {st:List UInt8} {no a k:Int} {r:List (List UInt8)} {y:Nt} (h:argF st no a k r=some y) (P:List UInt8→Prop) (h0:P []) (hst:P st) (hr:∀w∈r,P w):P y.st∧P y.pr∧P y.jb∧P y.sp∧P y.of_:=by
 unfold argF at h
 repeat' split at h
 all_goals first
  | (cases h;done)
  | (obtain⟨n,_,rfl⟩:=Option.map_eq_some_iff.1 h;refine⟨?_, ?_, ?_, ?_, ?_⟩ <;> first|exact h0|exact hst|exact hr _ (by simp))
  | (obtain rfl:=Option.some.inj h;refine⟨?_, ?_, ?_, ?_, ?_⟩ <;> first|exact h0|exact hst|exact hr _ (by simp))
theorem zr18 {s:List UInt8} {y:Nt} (hl:s.length≤1000000) (h:rnF s=some y):NtS y:=by
 unfold rnF wrdsF at h
 split at h
 ·cases h
 rw[Option.bind_some] at h
 have hw:∀w∈spl 32 s,w.length≤1000000:=fun w hw=>by
  have:=(zj7 (c:=32) _ s rfl w hw).2.1
  omega
 generalize spl 32 s=l at h hw
 rcases l with _|⟨a,_|⟨b,_|⟨c,_|⟨d,r⟩⟩⟩⟩
 ·cases h
 ·cases h
 ·cases h
 ·cases h
 ·unfold rwF at h
  change (match numF b,numF c with|some no,some a2=>argF a no a2 (kwI d) r|_,_=>none)=some y at h
  split at h
  ·obtain⟨h1,h2,h3,h4,h5⟩:=ze18 h (fun w=>w.length≤1000000) (by simp) (hw _ (by simp)) fun w hm=>hw w (by simp[hm])
   exact⟨h1,h2,h3,h4,h5⟩
  ·cases h
set_option maxHeartbeats 1000000 in
theorem zb17 (t:List UInt8) (hl:t.length≤1000000):ACalls Tryz.prog 38 [.c (T t)] [] fun u H=>(∃V,u = .t [.c (.r V (noRs (rdF t).1)),.c (I (rdF t).2.1),.c (I (rdF t).2.2)])∧H = []:=by
 refine zf (N:=58) Tryz.func38 rfl rfl (by simp) fun E hE=>?_
 refine WA ?_
 refine WA ?_
 refine zl rfl (fun hlt=>?_) (fun hlt=>?_)
 ·rw[show rdF t=([],0,2) by unfold rdF;rw[if_pos (by omega)]]
  refine WA ?_
  exact zA (us:=[.c (.r (.slice none 0 0) []),.c (I 0),.c (I 2)]) [] (fun _=>.t [.c (.r (.slice none 0 0) []),.c (I 0),.c (I 2)]) (fun _=>[]) (.tmp rfl (.tmp rfl (.tmp rfl .nil))) (by decide) (ZNK rfl) (fun _=>.tL (.cons (.c rfl) (.cons (.c rfl) (.cons (.c rfl) .nil)))) ZCH (fun _=>⟨⟨_,rfl⟩,rfl⟩)
 have hlt2:¬200000 < t.length:=by omega
 obtain⟨ls,en,hls⟩:∃ls en,lnsF t=(ls,en):=⟨_,_,rfl⟩
 have hsz:ls.length≤200001∧∀s∈ls,s.length≤1000000:=by
  unfold lnsF at hls
  split at hls
  ·injection hls with h1 h2;subst h1;exact⟨by simp,by simp⟩
  split at hls
  ·injection hls with h1 h2;subst h1
   have h3:=List.count_le_length (a:=10) (l:=t.dropLast)
   refine⟨by rw[zf5];simp at h3;omega,fun s hs=>?_⟩
   have h4:=(zj7 (c:=10) _ _ rfl s hs).2.1
   simp at h4;omega
  ·injection hls with h1 h2;subst h1
   have h3:=List.count_le_length (a:=10) (l:=t)
   refine⟨by rw[zf5];omega,fun s hs=>?_⟩
   have h4:=(zj7 (c:=10) _ _ rfl s hs).2.1
   omega
 obtain⟨hs1,hs2⟩:=hsz
 have eL:(wR ls).length=ls.length:=by simp
 refine WR ?_
 refine ze rfl (efk (c:=fun _=>zP15 t (by omega))) ?_
 rintro _ _ ⟨_,_,_,⟨⟨vl,rfl⟩,rfl⟩,hF,hH⟩
 rw[hls] at hF
 (refine NST hF hH ?_;clear hF hH;rintro rfl rfl)
 refine WE ?_
 refine WA ?_
 refine WA ?_
 refine zq (fun m F H=>∃(k co:Nat) (out:List Nt),m+k=ls.length∧out.length=k∧k≤co∧rdI en ls k out∧(∀x∈out,NtS x)∧F = [(5,.c (.r vl (wR ls))),(6,.c (B en)),(7,.o 0 0 out.length co),(21,.c (.r vl (wR ls))),(22,.c (I (wR ls).length)),(23,.c (I k))]∧H = [.arr 37 10 co (noRs out)]) ?_ ?_
 ·refine wkg [none] (fun _=>[(5,.c (.r vl (wR ls))),(6,.c (B en)),(7,.o 0 0 0 0),(21,.c (.r vl (wR ls))),(22,.c (I (wR ls).length)),(23,.c (I (0:Nat)))]) (fun _=>[.arr 37 10 0 []]) (fun _=>⟨_,0,0,[],rfl,rfl,Nat.le_refl _,zs18 en ls,by simp,rfl,rfl⟩)
 rintro m F H ⟨k,co,out,hk,hok,hco,hin,hos,rfl,rfl⟩
 have eO:(noRs out).length=out.length:=by simp
 refine WA ?_
 refine zl rfl (fun hlt3=>?_) (fun hge=>?_)
 ·obtain⟨s,hs⟩:∃s,ls[k]?=some s:=⟨_,List.getElem?_eq_getElem (by omega)⟩
  have hrow:(wR ls)[k]?=some [T s]:=by rw[List.getElem?_map,hs];rfl
  have hsl:=hs2 s (List.mem_of_getElem? hs)
  obtain⟨qn,hqn⟩:∃q,(rnF s).isSome=q:=⟨_,rfl⟩
  refine WA ?_
  refine WR ?_
  refine ze rfl (efk (c:=fun _=>zU10 s hsl)) ?_
  rintro _ _ ⟨_,_,_,⟨x,rfl,hx,rfl⟩,hF,hH⟩
  obtain⟨x1,x2,x3,x4,x5,x6,x7,x8,x9,x10⟩:=x
  rw[hqn] at hF
  (refine NST hF hH ?_;clear hF hH;rintro rfl rfl)
  refine WE ?_
  cases qn with
  | false=>
   have hrn:rnF s=none:=by cases h:rnF s with|none=>rfl|some y=>rw[h] at hqn;cases hqn
   refine WA ?_
   rw[show rdF t=([],(k:Int),9) by unfold rdF;rw[if_neg hlt2,hls];simp only;rw[zf12 hin hs (.inl hrn)];rfl]
   refine zb rfl ?_
   refine WA ?_
   exact zA (us:=[.c (.r (.slice none 0 0) []),.c (I (k:Nat)),.c (I 9)]) [] (fun _=>.t [.c (.r (.slice none 0 0) []),.c (I (k:Nat)),.c (I 9)]) (fun _=>[]) (.tmp rfl (.tmp rfl (.tmp rfl .nil))) (by decide) (ZNK rfl) (fun _=>.tL (.cons (.c rfl) (.cons (.c rfl) (.cons (.c rfl) .nil)))) ZCH (fun _=>⟨⟨_,rfl⟩,rfl⟩)
  | true=>
   obtain⟨y,hy⟩:∃y,rnF s=some y:=Option.isSome_iff_exists.1 hqn
   have hxy:=hx y hy
   have hys:=zr18 hsl hy
   by_cases hen:en=false∧k+1=ls.length
   ·obtain⟨rfl,hkl⟩:=hen
    have hke:(k:Int)=((wR ls).length:Int) - 1:=by omega
    refine WA ?_
    rw[show rdF t=([],(k:Int),9) by unfold rdF;rw[if_neg hlt2,hls];simp only;rw[zf12 hin hs (.inr ⟨rfl,hkl⟩)];rfl]
    refine zb rfl ?_
    refine WA ?_
    exact zA (us:=[.c (.r (.slice none 0 0) []),.c (I (k:Nat)),.c (I 9)]) [] (fun _=>.t [.c (.r (.slice none 0 0) []),.c (I (k:Nat)),.c (I 9)]) (fun _=>[]) (.tmp rfl (.tmp rfl (.tmp rfl .nil))) (by decide) (ZNK rfl) (fun _=>.tL (.cons (.c rfl) (.cons (.c rfl) (.cons (.c rfl) .nil)))) ZCH (fun _=>⟨⟨_,rfl⟩,rfl⟩)
   ·have hnx:=zM13 hin hs hy hen
    rw[←hxy] at hnx hys
    refine zE1 (fun F H=>F = [(5,.c (.r vl (wR ls))),(6,.c (B en)),(7,.o 0 0 out.length co),(10,.p 1 0 0),(21,.c (.r vl (wR ls))),(22,.c (I (wR ls).length)),(23,.c (I k)),(45,.c (B false))]∧H = [.arr 37 10 co (noRs out),.box [.c (T x1),.c (I x2),.c (I x3),.c (I x4),.c (T x5),.c (T x6),.c (T x7),.c (I x8),.c (T x9),.c (I x10)]]) ?_ ?_ zV2
    ·cases en with
     | true=>
      refine WA ?_
      refine zZ2 [some 0,some 1] (fun _=>_) (fun _=>_) (by decide) (ZNL hE) ZCF ZCH (fun _=>⟨rfl,rfl⟩)
     | false=>
      have hke:¬(k:Int)=((wR ls).length:Int) - 1:=fun h=>hen ⟨rfl,by omega⟩
      refine WA ?_
      refine zZ2 [some 0,some 1] (fun _=>_) (fun _=>_) (by decide) (ZNL hE) ZCF ZCH (fun _=>⟨rfl,rfl⟩)
    rintro F H ⟨rfl,rfl⟩
    refine za rfl ?_
    refine WR ?_
    refine ze rfl (Zapp (KA (t:=38) rfl)) ?_
    rintro _ _ ⟨_,cc,hcc,rfl,rfl⟩
    refine WE ?_
    refine WA ?_
    refine zZ2 [some 0] (fun _=>[(5,.c (.r vl (wR ls))),(6,.c (B en)),(7,.o 0 0 (out.length+1) cc),(21,.c (.r vl (wR ls))),(22,.c (I (wR ls).length)),(23,.c (I (k+1:Nat)))]) (fun _=>[.arr 37 10 cc (noRs (out++[⟨x1,x2,x3,x4,x5,x6,x7,x8,x9,x10⟩]))]) (by decide) (ZNL hE) ZCF ?_ (fun _=>⟨m - 1,by omega,k+1,cc,_,by omega,by simp[hok],by omega,hnx, ?_,by simp,rfl⟩)
    ·exact fun _=>.arr rfl (by simp[noRs,noR]) .nil
    ·intro z hz
     rcases List.mem_append.1 hz with hz|hz
     ·exact hos z hz
     ·rw[List.mem_singleton] at hz;subst hz;exact hys
 ·obtain rfl:k=ls.length:=by omega
  have hend:=zF15 (show rdI en ls ls.length out from hin)
  have hrd:rdF t=rdE (some out,(rdL en ls 0).2):=by
   unfold rdF
   rw[if_neg hlt2,hls]
   simp only
   rw[show rdL en ls 0=((rdL en ls 0).1,(rdL en ls 0).2) from rfl,hend]
  rw[hrd]
  clear hrd hin hend
  refine WR ?_
  refine ze rfl (zz true (fun g=>za2 (g (.o 0 0 out.length co)) out (by omega) hos) rfl .fn rfl (by decide) (by kernel_rfl) rfl (fun _=>.cons (.frz rfl rfl (by rw[List.drop_zero,List.take_of_length_le (by simp)]) (by simp) rfl) .nil) (fun _ _ _ _ ⟨hu,hH⟩=>by rw[hu,hH];exact⟨.c (.inl trivial),by simp⟩)) ?_
  rintro _ _ ⟨_,_,_,⟨rfl,rfl⟩,hF,hH⟩
  (refine NST hF hH ?_;clear hF hH;rintro rfl rfl)
  refine WE ?_
  unfold rdE
  simp only
  generalize hck:chkN out=e
  refine WA ?_
  refine zl rfl (fun h0=>?_) (fun h0=>?_)
  ·rw[if_pos h0]
   refine WA ?_
   exact zA (us:=[.c (.r (.slice none 0 0) []),.c (I 0),.c (I e)]) [] (fun _=>.t [.c (.r (.slice none 0 0) []),.c (I 0),.c (I e)]) (fun _=>[]) (.tmp rfl (.tmp rfl (.tmp rfl .nil))) (by decide) (ZNK rfl) (fun _=>.tL (.cons (.c rfl) (.cons (.c rfl) (.cons (.c rfl) .nil)))) ZCH (fun _=>⟨⟨_,rfl⟩,rfl⟩)
  ·rw[if_neg h0]
   refine WA ?_
   exact zA (us:=[.o 0 0 out.length co,.c (I 0),.c (I 0)]) [] (fun g=>.t [.c (.r (g (.o 0 0 out.length co)) (noRs out)),.c (I 0),.c (I 0)]) (fun _=>[]) (.tmp rfl (.tmp rfl (.tmp rfl .nil))) (by decide) (ZNK rfl) (fun _=>.tL (.cons (.frz rfl rfl (by rw[List.drop_zero,List.take_of_length_le (by simp)]) (by simp) rfl) (.cons (.c rfl) (.cons (.c rfl) .nil)))) ZCH (fun _=>⟨⟨_,rfl⟩,rfl⟩)
end Go.Proofs.YtophoepbedlhjaaGreatDoor
