/- askedFault and Counting, by value. -/
import Derived.Test.YtophoepbedlhjaaGreatDoorQbc
import Derived.Test.YtophoepbedlhjaaGreatDoorQbd
import Derived.Test.YtophoepbedlhjaaGreatDoorQap
set_option linter.unusedSimpArgs false
set_option linter.unusedVariables false
-- NEWM
namespace Go.Proofs.YtophoepbedlhjaaGreatDoor
open Go Go.RowKit
set_option maxRecDepth 100000
abbrev RW (N B:Nat) (v:Value) (rows:List (List CV)) (S0:Nat→Prop) (F:Fm) (a:Act) (W:World):Prop:=R N ⟨W,S0,[some B],[.box [.c (.r v rows)]],false,none,[]⟩ S0 [some B] F [.box [.c (.r v rows)]] a W
section
variable {N B:Nat} {v:Value} {rows:List (List CV)} {S0:Nat→Prop} {F:Fm} {a:Act} {w W W':World}
theorem RW.mk' (hb:∃t,W.heap[B]?=some (.cells #[v] t (0,0))) (hg:Good W S0 (.r v rows)) (hap:¬S0 B) (hlt:∀b,S0 b→b < W.heap.size) (hd:a.defers = []) (hz:N≤a.tmps.size) (hf:∀i x,F.lookup i=some x→a.tmps[i]?=some (x.den [some B] [.box [.c (.r v rows)]])∧WF W S0 [some B] [.box [.c (.r v rows)]] x):RW N B v rows S0 F a W:=by
 obtain⟨t,ht⟩:=hb
 have hone:v.oneCell'=true:=by cases hg <;> rfl
 have hat:∀i B',atB [some B] i=some B'→i=0∧B'=B:=fun i B' h=>by
  cases i with
  | zero=>exact⟨rfl,by simpa [atB] using h.symm⟩
  | succ i=>simp[atB] at h
 have hnp:∀i k B',¬inP [OB.box [.c (.r v rows)]] i k B':=fun i k B' ⟨o,h1,h2⟩=>by
  obtain⟨l,rfl⟩:=zp1 h2
  cases i with
  | zero=>simp at h1
  | succ i=>simp at h1
 refine⟨hd,hz,hf,⟨rfl,fun i i' B' h h'=>by rw[(hat _ _ h).1,(hat _ _ h').1],fun i B' h hs=>hap ((hat _ _ h).2▸hs),fun i B' h=>?_,hlt,fun i o ho=>?_,PL.none hnp⟩,Stp.refl _ _,fun i B' h=>.inr ⟨by rw[(hat _ _ h).1];exact Nat.zero_lt_one,h⟩,fun b h=>.inl h,fun i k B' h=>absurd h (hnp i k B'),fun i h=>⟨h,fun o ho _=>⟨rfl,o,ho,rfl⟩⟩,fun h=>by cases h⟩
 ·rw[(hat _ _ h).2];exact(Array.getElem?_eq_some_iff.1 ht).1
 ·cases i with
  | zero=>
   simp only[List.getElem?_cons_zero,Option.some.injEq] at ho
   subst ho
   exact⟨B,t,rfl,ht,fun x hx=>by rw[List.mem_singleton] at hx;subst hx;exact⟨.c hg,hone⟩⟩
  | succ i=>simp at ho
theorem RW.next (h:RW N B v rows S0 F a W) (hk:KpB B v S0 W W'):RW N B v rows S0 F a W':=by
 have hmo:Mo W S0 W' S0:=fun b hb=>⟨hb,hk.2 b hb⟩
 obtain⟨B',t,hB,hBw,hBx⟩:=h.hp.blk 0 _ rfl
 have hBB:B=B':=by simpa [atB] using hB
 subst hBB
 have hg:Good W S0 (.r v rows):=by
  have:=(hBx (.c (.r v rows)) (by simp)).1
  cases this with|c h=>exact h
 refine RW.mk' (hk.1 ⟨t,hBw⟩) (hg.mono hmo) (h.hp.ap 0 B rfl) (fun b hb=>?_) h.df h.sz fun i x hx=>⟨(h.fr i x hx).1,(h.fr i x hx).2.ex (Ex.refl _ _) hmo⟩
 have h1:=h.hp.sS b hb
 have h2:=hk.2 b hb
 rw[Array.getElem?_eq_getElem h1] at h2
 exact(Array.getElem?_eq_some_iff.1 h2).1
theorem RW.sub3 {x0 x1 x3:AV} (h:RW N B v rows S0 F a W) (h0:F.lookup 0=some x0) (h1:F.lookup 1=some x1) (h3:F.lookup 3=some x3):RW N B v rows S0 [(0,x0),(1,x1),(3,x3)] a W:=
 ⟨h.df,h.sz,fun i x hx=>h.fr i x (by
  rw[List.lookup_cons] at hx
  split at hx
  ·rename_i e;have:i=0:=by simpa using e
   subst this;cases hx;exact h0
  rw[List.lookup_cons] at hx
  split at hx
  ·rename_i e;have:i=1:=by simpa using e
   subst this;cases hx;exact h1
  rw[List.lookup_cons] at hx
  split at hx
  ·rename_i e;have:i=3:=by simpa using e
   subst this;cases hx;exact h3
  ·cases hx),h.hp,h.st,h.nw,h.nS,h.pw,h.ln,h.pn⟩
theorem zY2 {P:Program} {ops:Array Oper} {o:Oper} {rest:List Oper} {n d:Nat} {x:AV} {Q:Exit→Act→World→Prop} (hR:RW N B v rows S0 F a W) (hg:o.guard=none) (hd:o.dst=some d) (hN:d < N) (hr:∀E,Rd P N E o F [.box [.c (.r v rows)]] x)
    (h:∀a',RW N B v rows S0 ((d,x) :: F) a' W→wpListIn Fence.wide n P ops Q rest a' W):wpListIn Fence.wide n P ops Q (o :: rest) a W:=
 wpListIn_plain hg fun K hK=>zX2 (.inl rfl) (by
  obtain⟨h1,h2⟩:=hr _ S0 _ a W hR
  unfold effO
  rw[h1]
  refine hK _ _ ?_
  rw[hd]
  exact h _ (R.put hR hN h2))
theorem zh6 {P:Program} {o:Oper} {fx:Operand} {args:Array Operand} {tys:Array TypeId} {l:Nat} (ho:o.op = .call { callee:=.value fx,args:=args,argTypes:=tys }) (hv:a.eval fx = .func (.yield l) #[] #[]):(execOp a.eval o).run P W=(Instr.yield l (args.map a.eval)).run P W:=by
 unfold execOp
 simp only[ho,resolve,hv,Deferred.ofValue,Sem.run_bind,Sem.run_pure,Result.andThen_ok,invoke]
 simp
end
theorem zo8 {P:Program} {f:FuncId} {fn:Func} {c:Code} {args:Array Value} {w:World} {n:Nat} {R:Ending→World→Prop} (hf:P.funcs[f]?=some fn) (hb:fn.body=some c) (h:∀a:Act,a.defers = []→a.tmps=args++Array.replicate (fn.ntmps - args.size) undef→c.wpIn Fence.wide n P (bodyPost P fn R) a w):CallsIn Fence.wide n P f args w R:=
 callsIn_of_wp hf hb trivial (h _ rfl rfl)
def bwd (l:List Nt):List (Nat × Nt):=(List.range l.length).map fun k=>(l.length - 1 - k,(l[l.length - 1 - k]?).getD zN)
theorem zF6 (l:List Nt):(bwd l).length=l.length:=by simp[bwd]
theorem zB11 {l:List Nt} {k:Nat} (h:k < l.length):∃x,l[l.length - 1 - k]?=some x∧(bwd l)[k]?=some (l.length - 1 - k,x):=by
 have hx:l[l.length - 1 - k]?=some (l[l.length - 1 - k]'(by omega)):=List.getElem?_eq_getElem (by omega)
 refine⟨_,hx, ?_⟩
 unfold bwd
 rw[List.getElem?_map,List.getElem?_range h,Option.map_some,hx];rfl
def cntT (a:Act):Nat:=match a.tmps[3]? with
 | some (Value.int _ z)=>(z+1).toNat
 | _=>0
set_option maxHeartbeats 2000000 in
theorem zC7 (v:Value) (l:List Nt) (hl:l.length≤1000000):SeqK Tryz.prog 291 (fun x:Nat × Nt=>[Value.int .i64 x.1,encN.v x.2].toArray) (bwd l) v (noRs l):=by
 intro w S0 B hB hg hap hlt l0 J W hk hJd hY h0
 have e1:(noRs l).length=l.length:=by simp
 have hW:∀tmps:Array Value,19≤tmps.size→tmps[0]?=some (.func (.yield l0) #[] #[])→tmps[1]?=some (.pointer (some ⟨B,0,none⟩))→RW 19 B v (noRs l) S0 [(0,.c (.s (.func (.yield l0) #[] #[]))),(1,.p 0 0 0)] { tmps:=tmps,defers:=[] } W:=fun tmps t0 t1 t2=>by
  refine RW.mk' (hk.1 hB) (hg.mono fun b hb=>⟨hb,hk.2 b hb⟩) hap (fun b hb=>?_) rfl t0 fun i x hx=>?_
  ·have h1:=hlt b hb
   have h2:=hk.2 b hb
   rw[Array.getElem?_eq_getElem h1] at h2
   exact(Array.getElem?_eq_some_iff.1 h2).1
  ·rw[List.lookup_cons] at hx
   split at hx
   ·rename_i h;have:i=0:=by simpa using h
    subst this;cases hx
    exact⟨t1,.c (.s _)⟩
   ·rw[List.lookup_cons] at hx
    split at hx
    ·rename_i h;have:i=1:=by simpa using h
     subst this;cases hx
     exact⟨t2,.p (by simp) rfl⟩
    ·cases hx
 refine zo8 Tryz.func291 rfl fun a hd ht=>?_
 have hR:RW 19 B v (noRs l) S0 [(0,.c (.s (.func (.yield l0) #[] #[]))),(1,.p 0 0 0)] a W:=by
  have hn:Tryz.f291.ntmps=19:=rfl
  rw[hn] at ht
  have h3:=hW a.tmps (by rw[ht];simp) (by rw[ht];simp) (by rw[ht];simp)
  obtain⟨tm,df⟩:=a
  simp only at hd
  subst hd
  exact h3
 clear ht
 clear hW
 refine wpIn_seq (wpIn_region_lit ?_)
 refine zY2 hR rfl rfl (by decide) (fun _=>zk2 rfl) fun a hR=>?_
 refine zY2 hR rfl rfl (by decide) (fun _=>zk2 rfl) fun a hR=>?_
 refine zY2 hR rfl rfl (by decide) (fun _=>Zsub (r:=((noRs l).length:Int) - 1)) fun a hR=>?_
 refine zY2 hR rfl rfl (by decide) (fun _=>zk2 rfl) fun a hR=>?_
 refine wpListIn_nil ?_
 refine wpIn_block ?_
 have hR3:=hR.sub3 (x0:=.c (.s (.func (.yield l0) #[] #[]))) (x1:=.p 0 0 0) (x3:=.c (I (((noRs l).length:Int) - 1))) rfl rfl rfl
 rw[e1] at hR3
 refine wpIn_loop (fun a W'=>∃k:Nat,k≤l.length∧J k W'∧KpB B v S0 w W'∧RW 19 B v (noRs l) S0 [(0,.c (.s (.func (.yield l0) #[] #[]))),(1,.p 0 0 0),(3,.c (I ((l.length:Int) - 1 - k)))] a W')
  (fun a _=>cntT a) ⟨0,Nat.zero_le _,h0,hk,by simpa using hR3⟩ ?_
 clear hR hR3
 rintro a W1 ⟨k,hkl,hJ,hk1,hR⟩
 have hm:∀(a:Act) (W:World) (z:Int) (F:Fm),RW 19 B v (noRs l) S0 F a W→F.lookup 3=some (.c (I z))→cntT a=(z+1).toNat:=fun a W z F h h3=>by
  unfold cntT
  rw[(h.fr 3 _ h3).1];rfl
 rw[hm a W1 _ _ hR rfl]
 refine wpIn_seq (wpIn_seq (wpIn_region_lit ?_))
 refine zY2 hR rfl rfl (by decide) (fun _=>zk2 rfl) fun a hR=>?_
 by_cases hlt:k < l.length
 ·refine zY2 hR rfl rfl (by decide) (fun _=>rd_geq_t rfl rfl rfl (by omega)) fun a hR=>?_
  refine wpListIn_nil ?_
  refine wpIn_cond_true (hR.ev (x:=.tmp 8) rfl).1 (wpIn_skip ?_)
  obtain⟨x,hx,hbx⟩:=zB11 hlt
  have hy0:=hY k (l.length - 1 - k,x) W1 hbx hJ
  have hrow0:=zY6 hx
  obtain⟨st,no,at_,kn,pr,jb,sp,n,of_,ot⟩:=x
  have hrow:(noRs l)[l.length - 1 - k]?=some [T st,I no,I at_,I kn,T pr,T jb,T sp,I n,T of_,I ot]:=hrow0
  refine wpIn_seq (wpIn_block (wpIn_seq (wpIn_region_lit ?_)))
  refine zY2 hR rfl rfl (by decide) (fun _=>zk2 rfl) fun a hR=>?_
  refine zY2 hR rfl rfl (by decide) (fun _=>zk2 rfl) fun a hR=>?_
  refine zY2 hR rfl rfl (by decide) (fun _=>zk2 rfl) fun a hR=>?_
  refine zY2 hR rfl rfl (by decide) (fun _=>zk2 rfl) fun a hR=>?_
  refine zY2 hR rfl rfl (by decide) (fun _=>YJ (i:=l.length - 1 - k)) fun a hR=>?_
  refine zY2 hR rfl rfl (by decide) (fun _=>YK) fun a hR=>?_
  refine wpListIn_plain rfl fun K hK=>?_
  obtain⟨fn,tmps,assign,body,hy,hround⟩:=hy0
  refine⟨fun _ _=>trivial, ?_⟩
  have hv:a.eval (.tmp 11) = .func (.yield l0) #[] #[]:=(hR.ev (x:=.tmp 11) rfl).1
  have h12:a.eval (.tmp 12) = .int .i64 ((l.length:Int) - 1 - k):=(hR.ev (x:=.tmp 12) rfl).1
  have h16:a.eval (.tmp 16)=encN.v ⟨st,no,at_,kn,pr,jb,sp,n,of_,ot⟩:=(hR.ev (x:=.tmp 16) rfl).1
  have hnum:((l.length:Int) - 1 - k)=((l.length - 1 - k:Nat):Int):=by omega
  have hargs:(#[.tmp 12,.tmp 16]:Array Operand).map a.eval = [Value.int .i64 ((l.length - 1 - k:Nat):Int),encN.v ⟨st,no,at_,kn,pr,jb,sp,n,of_,ot⟩].toArray:=by
   simp only[List.map_toArray,List.map_cons,List.map_nil,h12,h16,hnum]
  rw[Oper.semAt_eq _ _ _ fun c hc=>by cases hc]
  rw[zh6 rfl hv,hargs,hy]
  refine⟨fun h=>(by cases h),hround.mono ?_⟩
  rintro e W2 ⟨rfl,hJ2,hk2⟩
  refine hK _ _ ?_
  have hR2:RW 19 B v (noRs l) S0 ((17,.c (.s (.bool true))) :: _) (a.put (some 17) (.bool true)) W2:=R.put (x:=.c (.s (.bool true))) (hR.next hk2) (by decide) (.c (.s _))
  refine zY2 hR2 rfl rfl (by decide) (fun _=>zk2 rfl) fun a hR=>?_
  refine wpListIn_nil ?_
  refine wpIn_cond_false (hR.ev (x:=.tmp 18) rfl).1 (wpIn_skip ?_)
  refine wpIn_region_lit ?_
  refine zY2 hR rfl rfl (by decide) (fun _=>zk2 rfl) fun a hR=>?_
  refine zY2 hR rfl rfl (by decide) (fun _=>Zsub (r:=(l.length:Int) - 1 - k - 1)) fun a hR=>?_
  refine zY2 hR rfl rfl (by decide) (fun _=>zk2 rfl) fun a hR=>?_
  rw[show (l.length:Int) - 1 - k - 1=(l.length:Int) - 1 - ((k+1:Nat):Int) by omega] at hR
  refine wpListIn_nil ⟨⟨k+1,by omega,hJ2,⟨fun h=>hk2.1 (hk1.1 h),fun b hb=>(hk2.2 b hb).trans (hk1.2 b hb)⟩,hR.sub3 rfl rfl rfl⟩, ?_⟩
  rw[hm a W2 _ _ hR rfl]
  omega
 ·refine zY2 hR rfl rfl (by decide) (fun _=>rd_geq_f rfl rfl rfl (by omega)) fun a hR=>?_
  refine wpListIn_nil ?_
  refine wpIn_cond_false (hR.ev (x:=.tmp 8) rfl).1 (wpIn_exit ?_)
  have hkn:k=l.length:=by omega
  subst hkn
  exact⟨hR.df,_,results_none rfl _ _ _,⟨_,rfl⟩,by rw[zF6];exact hJ⟩
theorem zW9 (v:Value) (l:List Nt):ACalls Tryz.prog 204 [.c (.r v (noRs l))] [] fun u H=>u = .f (.func 291) [.p 0 0 0]∧H = [.box [.c (.r v (noRs l))]]:=by
 refine zb (N:=4) Tryz.func204 rfl rfl (by simp) fun E hE=>?_
 repeat' (first
  | refine ZY ?_
  | refine zu rfl (by assumption) ?_|refine zt rfl (by assumption) ?_|refine zl rfl (fun _=>?_) (fun _=>?_)|refine zh rfl (fun _=>?_) (fun _=>?_)
  | (refine ze ?_;refine WE ?_))
 exact zI (us:=[.f (.func 291) [.p 0 0 0]]) [some 0] (fun _=>.f (.func 291) [.p 0 0 0]) (fun _=>[.box [.c (.r v (noRs l))]]) (.tmp rfl .nil) (by decide) (ZNK rfl) (fun _=>.fL (.cons (.p rfl) .nil)) ZCH (fun _=>⟨rfl,rfl⟩)
end Go.Proofs.YtophoepbedlhjaaGreatDoor
-- NEWM
namespace Go.Proofs.YtophoepbedlhjaaGreatDoor
open Go Go.RowKit
set_option maxRecDepth 100000
def cstp (at_:Int) (s:List (List UInt8 × Int) × List Int) (e:Nat × Nt):List (List UInt8 × Int) × List Int:=
 if at_ < e.2.at_∨ky e.2∈s.1 then s else (if e.2.kd=7 then s.1++[(e.2.of_,e.2.ot)] else s.1,s.2++[(e.1:Int)])
def cst (at_:Int) (l:List Nt) (k:Nat):List (List UInt8 × Int) × List Int:=((bwd l).take k).foldl (cstp at_) ([],[])
theorem zC6 {at_:Int} {l:List Nt} {k:Nat} {e:Nat × Nt} (h:(bwd l)[k]?=some e):cst at_ l (k+1)=cstp at_ (cst at_ l k) e:=by
 unfold cst
 rw[List.take_add_one,h,Option.toList_some,List.foldl_append];rfl
def cntP (at_:Int) (l:List Nt):List Int:=(cst at_ l l.length).2.reverse
def cH (v:Value) (l:List Nt) (at_:Int) (mk:Nat) (ml:List (Nat × (List UInt8 × Int) × Bool)) (cp:Nat) (out:List Int):List OB:=
 [.box [.c (I at_)],mpO encO encB ml mk,.box [.mp 1],.arr 3 1 cp (nR out),.box [.o 3 0 out.length cp],.box [.c (.r v (noRs l))]]
def cInv (v:Value) (l:List Nt) (at_:Int) (k:Nat) (H:List OB):Prop:=∃mk ml cp,(∀s,(mget ml s).getD false=(cst at_ l k).1.contains s)∧(cst at_ l k).2.length≤cp∧H=cH v l at_ mk ml cp (cst at_ l k).2
theorem zp8 {v:Value} {l:List Nt} {at_:Int} {mk:Nat} {ml:List (Nat × (List UInt8 × Int) × Bool)} {cp:Nat} {out:List Int} {H0:List OB} (h0:H0[5]?=some (.box [.c (.r v (noRs l))])) (ext:List OB) (hx:∀o∈ext,OBF o):FlatH H0 (cH v l at_ mk ml cp out++ext):=fun i o h=>by
 have hb:∀x:AV,AVF x→OBF (.box [x]):=fun x hx y hy=>by rw[List.mem_singleton] at hy;rw[hy];exact hx
 rcases i with _|_|_|_|_|_|i
 ·simp only[cH,List.cons_append,List.getElem?_cons_zero,Option.some.injEq] at h;subst h;exact .inl (hb _ trivial)
 ·simp only[cH,List.cons_append,List.getElem?_cons_succ,List.getElem?_cons_zero,Option.some.injEq] at h;subst h
  exact .inl fun e he=>by obtain⟨q,_,rfl⟩:=List.mem_map.1 he;exact⟨_,rfl⟩
 ·simp only[cH,List.cons_append,List.getElem?_cons_succ,List.getElem?_cons_zero,Option.some.injEq] at h;subst h;exact .inl (hb _ trivial)
 ·simp only[cH,List.cons_append,List.getElem?_cons_succ,List.getElem?_cons_zero,Option.some.injEq] at h;subst h
  exact .inl fun row hr u hu=>by obtain⟨q,_,rfl⟩:=List.mem_map.1 hr;rw[List.mem_singleton] at hu;exact⟨_,hu⟩
 ·simp only[cH,List.cons_append,List.getElem?_cons_succ,List.getElem?_cons_zero,Option.some.injEq] at h;subst h;exact .inl (hb _ trivial)
 ·simp only[cH,List.cons_append,List.getElem?_cons_succ,List.getElem?_cons_zero,Option.some.injEq] at h;subst h
  exact .inr ⟨⟨[.r v (noRs l)],rfl⟩,h0⟩
 ·simp only[cH,List.cons_append,List.getElem?_cons_succ,List.nil_append] at h
  exact .inl (hx o (List.mem_of_getElem? h))
end Go.Proofs.YtophoepbedlhjaaGreatDoor
namespace Go.Proofs.YtophoepbedlhjaaGreatDoor
open Go Go.RowKit
def SwK {α:Type} (l:List α) (k:Nat) (l':List α):Prop:=l'.length=l.length∧∀m,m < l.length→l'[m]?=if m < k∨l.length - 1 - m < k then l[l.length - 1 - m]? else l[m]?
theorem SwK.zero {α:Type} (l:List α):SwK l 0 l:=⟨rfl,fun m hm=>by rw[if_neg (by omega)]⟩
theorem SwK.next {α:Type} {l l':List α} {k j:Nat} {x y:α} (h:SwK l k l') (hj:k+j+1=l.length) (hkj:k < j) (hx:l'[k]?=some x) (hy:l'[j]?=some y):SwK l (k+1) ((l'.set k y).set j x):=by
 obtain⟨h1,h2⟩:=h
 have ek:=h2 k (by omega)
 have ej:=h2 j (by omega)
 rw[if_neg (by omega),hx] at ek
 rw[if_neg (by omega),hy] at ej
 refine⟨by simp[h1],fun m hm=>?_⟩
 rw[List.getElem?_set,List.getElem?_set]
 by_cases hmj:j=m
 ·subst hmj
  rw[if_pos rfl,if_pos (by simp;omega),if_pos (by omega),show l.length - 1 - j=k from by omega,←ek]
 ·rw[if_neg hmj]
  by_cases hmk:k=m
  ·subst hmk
   rw[if_pos rfl,if_pos (by omega),if_pos (by omega),show l.length - 1 - k=j from by omega,←ej]
  ·rw[if_neg hmk,h2 m hm]
   by_cases hc:m < k∨l.length - 1 - m < k
   ·rw[if_pos hc,if_pos (by omega)]
   ·rw[if_neg hc,if_neg (by omega)]
theorem SwK.fin {α:Type} {l l':List α} {k:Nat} (h:SwK l k l') (hkj:l.length≤2*k+1):l'=l.reverse:=by
 obtain⟨h1,h2⟩:=h
 refine List.ext_getElem? fun m=>?_
 rcases Nat.lt_or_ge m l.length with hm|hm
 ·rw[List.getElem?_reverse hm,h2 m hm]
  by_cases hc:m < k∨l.length - 1 - m < k
  ·rw[if_pos hc]
  ·rw[if_neg hc,show l.length - 1 - m=m from by omega]
 ·rw[List.getElem?_eq_none (by omega),List.getElem?_eq_none (by simp;omega)]
end Go.Proofs.YtophoepbedlhjaaGreatDoor
-- NEWM
namespace Go.Proofs.YtophoepbedlhjaaGreatDoor
open Go Go.RowKit
set_option maxRecDepth 100000
theorem revI_a (l:List Int) (c:Nat) (hl:l.length≤1000000) (hc:l.length≤c):ACallsX true Tryz.prog 205 [.o 0 0 l.length c] [.arr 3 1 c (l.map (fun n=>[I n]))] fun u H=>u = .t []∧H = [.arr 3 1 c (l.reverse.map (fun n=>[I n]))]:=by
 refine ze1 true (N:=28) Tryz.func205 rfl rfl (by simp) fun E hE hP=>?_
 refine WA ?_
 refine zm (fun q F H=>∃(k:Nat) (j:Int) (l':List Int),q+k=l.length∧j=(l.length:Int) - 1 - k∧k≤l.length∧SwK l k l'∧F = [(0,.o 0 0 l.length c),(2,.c (I k)),(3,.c (I j))]∧H = [.arr 3 1 c (l'.map (fun n=>[I n]))]) ?_ ?_
 ·refine zf1 [some 0] (fun _=>[(0,.o 0 0 l.length c),(2,.c (I (0:Nat))),(3,.c (I ((l.length:Int) - 1)))]) (fun _=>_) (by decide) (ZNL hE) ZCF ZCH (fun _=>?_)
  exact⟨l.length,0,_,l,by omega,by omega,by omega,.zero l,rfl,rfl⟩
 rintro q F H ⟨k,j,l',hq,hj,hkl,hS,rfl,rfl⟩
 refine WA ?_
 refine zl rfl (fun hlt=>?_) (fun hge=>?_)
 ·obtain⟨j',rfl⟩:∃j':Nat,j=j':=⟨j.toNat,by omega⟩
  have hl1:=hS.1
  obtain⟨x,hx⟩:∃x,l'[k]?=some x:=⟨_,List.getElem?_eq_getElem (by omega)⟩
  obtain⟨y,hy⟩:∃y,l'[j']?=some y:=⟨_,List.getElem?_eq_getElem (by omega)⟩
  have hrx:(l'.map (fun n=>[I n]))[k]?=some [I x]:=by rw[List.getElem?_map,hx];rfl
  have hry:(l'.map (fun n=>[I n]))[j']?=some [I y]:=by rw[List.getElem?_map,hy];rfl
  have hry2:((l'.map (fun n=>[I n])).set (0+k) [I y])[0+j']?=some [I y]:=by rw[Nat.zero_add,Nat.zero_add,List.getElem?_set_ne (by omega),hry]
  have hS2:=hS.next (j:=j') (by omega) (by omega) hx hy
  have hm:(((l'.set k y).set j' x).map (fun n=>[I n]))=((l'.map (fun n=>[I n])).set (0+k) [I y]).set (0+j') [I x]:=by rw[List.map_set,List.map_set,Nat.zero_add,Nat.zero_add]
  refine ZZ ?_
  refine zc [(0,none),(1,none),(2,none),(3,none),(4,none),(5,none),(6,none),(7,none),(8,none),(9,none),(10,none),(11,none),(12,none),(13,some [2,3]),(14,none),(15,some [])] zo (by kernel_rfl) ?_
  refine WQ ?_
  refine WA ?_
  refine wkg [some 0] (fun _=>[(0,.o 0 0 l.length c),(2,.c (I (k+1:Nat))),(3,.c (I ((j':Int) - 1)))]) (fun _=>[.arr 3 1 c (((l'.set k y).set j' x).map (fun n=>[I n]))]) (fun _=>?_) (hH:=by rw[hm];exact ZCH)
  exact⟨q - 1,by omega,k+1,_,_,by omega,by omega,by omega,hS2,rfl,rfl⟩
 refine ZZ ?_
 have he:l'=l.reverse:=hS.fin (by omega)
 subst he
 refine zQ1 [some 0] (fun _=>[.arr 3 1 c (l.reverse.map (fun n=>[I n]))]) (by simp) rfl (by decide) (ZNK rfl) ZCH (fun _=>⟨rfl,rfl⟩)
def cJ (v:Value) (l:List Nt) (at_:Int) (k:Nat) (H:List OB):Prop:=∃mk ml cp x,(∀s,(mget ml s).getD false=(cst at_ l k).1.contains s)∧(cst at_ l k).2.length≤cp∧H=cH v l at_ mk ml cp (cst at_ l k).2++[.box ((noR x).map .c)]
theorem zu4 (at_:Int) (l:List Nt):∀k,k≤l.length→(cst at_ l k).2.length≤k
 | 0,_=>by simp[cst]
 | k+1,h=>by
  obtain⟨x,_,hx⟩:=zB11 (show k < l.length by omega)
  have:=zu4 at_ l k (by omega)
  rw[zC6 hx]
  unfold cstp
  split
  ·omega
  ·simp;omega
theorem zU9 (v:Value) (l:List Nt) (at_:Int) (hl:l.length≤1000000):ACalls Tryz.prog 131 [.c (.r v (noRs l)),.c (I at_)] [] fun u H=>∃c,(cntP at_ l).length≤c∧u = .o 0 0 (cntP at_ l).length c∧H = [.arr 3 1 c (nR (cntP at_ l))]:=by
 refine za10 (N:=43) Tryz.func131 rfl rfl (by simp) fun E hE hP hrd hdf=>?_
 refine zs8 hrd (K:=fun F H=>F = [(0,.c (.r v (noRs l))),(3,.p 0 0 0)]∧H = [.box [.c (I at_)]]) ?_ ?_
 ·refine zB3 ?_
  refine WA ?_
  exact wkg [some 0] (fun _=>[(0,.c (.r v (noRs l))),(3,.p 0 0 0)]) (fun _=>[.box [.c (I at_)]]) (fun _=>⟨rfl,rfl,rfl⟩)
 rintro F H ⟨rfl,rfl⟩
 refine zs8 hrd (K:=fun F H=>F = [(0,.c (.r v (noRs l))),(3,.p 0 0 0),(5,.p 2 0 0)]∧H = [.box [.c (I at_)],mpO encO encB [] 0,.box [.mp 1]]) ?_ ?_
 ·refine zB3 ?_
  refine ZR ?_
  refine zf rfl (zW1 rfl rfl (by decide)) ?_
  rintro _ _ ⟨rfl,rfl⟩
  refine WE ?_
  exact wkg [some 0,some 1,some 2] (fun _=>[(0,.c (.r v (noRs l))),(3,.p 0 0 0),(5,.p 2 0 0)]) (fun _=>[.box [.c (I at_)],mpO encO encB [] 0,.box [.mp 1]]) (fun _=>⟨rfl,rfl,rfl⟩)
 rintro F H ⟨rfl,rfl⟩
 refine zs8 hrd (K:=fun F H=>F = [(0,.c (.r v (noRs l))),(3,.p 0 0 0),(5,.p 2 0 0),(6,.p 3 0 0)]∧H = [.box [.c (I at_)],mpO encO encB [] 0,.box [.mp 1],.box [.c (.r (.slice none 0 0) [])]]) ?_ ?_
 ·refine zB3 ?_
  refine WA ?_
  exact wkg [some 0,some 1,some 2,some 3] (fun _=>[(0,.c (.r v (noRs l))),(3,.p 0 0 0),(5,.p 2 0 0),(6,.p 3 0 0)]) (fun _=>[.box [.c (I at_)],mpO encO encB [] 0,.box [.mp 1],.box [.c (.r (.slice none 0 0) [])]]) (fun _=>⟨rfl,rfl,rfl⟩)
 rintro F H ⟨rfl,rfl⟩
 refine awf_rfy (rfy_seq hrd (K:=fun F H=>F = [(3,.p 0 0 0),(5,.p 2 0 0),(6,.p 4 0 0),(11,.f (.func 291) [.p 5 0 0])]∧H=cH v l at_ 0 [] 0 []) ?_ ?_)
 ·refine zB3 ?_
  refine WR ?_
  refine zf rfl (efk (c:=fun _=>zW9 v l)) ?_
  rintro _ _ ⟨_,_,_,⟨rfl,rfl⟩,hF,hH⟩
  (refine NST hF hH ?_;clear hF hH;rintro rfl rfl)
  refine WE ?_
  exact wkg [some 0,some 1,some 2,none,some 3,some 4] (fun _=>[(3,.p 0 0 0),(5,.p 2 0 0),(6,.p 4 0 0),(11,.f (.func 291) [.p 5 0 0])]) (fun _=>[.box [.c (I at_)],mpO encO encB [] 0,.box [.mp 1],.arr 3 1 0 [],.box [.o 3 0 0 0],.box [.c (.r v (noRs l))]]) (fun _=>⟨rfl,rfl,rfl⟩) (hF:=fun _=>.cons rfl (.p rfl) (.cons rfl (.p rfl) (.cons rfl (.p rfl) (.cons rfl (.fL (.cons (.p rfl) .nil)) .nil))))
 rintro F H ⟨rfl,rfl⟩
 refine zy10 (rfy_rf (ps:=[12,13]) hrd hdf rfl rfl (by kernel_rfl) (fun x:Nat × Nt=>[.c (I x.1),noA x.2]) (fun x=>[.int .i64 x.1,encN.v x.2]) (fun x ρ H=>rfl) (fun x w S ρ H y hy=>?_) (bwd l) (fun _=>rfl) (by decide) (zC7 v l hl) [(3,.p 0 0 0),(5,.p 2 0 0),(6,.p 4 0 0)] (.cons rfl rfl (.cons rfl rfl (.cons rfl rfl .nil))) (cInv v l at_) (fun k H hi=>?_) ⟨0,[],0,fun s=>by simp[mget,cst],Nat.le_refl _,rfl⟩
  (fun k x F H=>F = [(7,.c (I x.1)),(8,.p 6 0 0),(3,.p 0 0 0),(5,.p 2 0 0),(6,.p 4 0 0)]∧∃mk ml cp,(bwd l)[k]?=some x∧(∀s,(mget ml s).getD false=(cst at_ l k).1.contains s)∧(cst at_ l k).2.length≤cp∧H=cH v l at_ mk ml cp (cst at_ l k).2++[.box ((noR x.2).map .c)]) (fun k x F H ⟨_,mk,ml,cp,_,_,_,hH⟩=>?_) (fun k _ H=>cJ v l at_ k H) ?_ ?_ (fun k F H hj=>?_) (fun E5 k F H hE5 _ hj=>?_) ?_)
 ·rcases List.mem_cons.1 hy with rfl|hy
  ·exact .c (.s _)
  ·rw[List.mem_singleton] at hy;subst hy;exact encN.wf x.2 w S ρ H
 ·obtain⟨mk,ml,cp,_,_,rfl⟩:=hi
  have h5:=zp8 (v:=v) (l:=l) (at_:=at_) (mk:=mk) (ml:=ml) (cp:=cp) (out:=(cst at_ l k).2) (H0:=cH v l at_ 0 [] 0 []) rfl [] (by simp)
  rw[List.append_nil] at h5
  exact⟨h5,⟨[],rfl,by simp⟩,rfl⟩
 ·subst hH
  refine⟨zp8 rfl _ (fun o ho=>?_),⟨[1],rfl,by simp⟩,rfl⟩
  rw[List.mem_singleton] at ho
  subst ho
  intro y hy
  obtain⟨u,hu,rfl⟩:=List.mem_map.1 hy
  simp only[noR,List.mem_cons,List.not_mem_nil,or_false] at hu
  rcases hu with rfl|rfl|rfl|rfl|rfl|rfl|rfl|rfl|rfl|rfl <;> trivial
 ·rintro E3 k ⟨i,st,no,xat,kn,pr,jb,sp,n,of_,ot⟩ H hE3 hP3 hx ⟨mk,ml,cp,hm,hcp,rfl⟩
  have hE:E3.H0.length=6:=by rw[hE3];rfl
  have hP:E3.pin=false:=hP3.trans hP
  generalize hcs:cst at_ l k=cs at hm hcp
  obtain⟨ud,out⟩:=cs
  simp only at hm hcp
  show AW _ _ _ _ [(13,.a [.c (T st),.c (I no),.c (I xat),.c (I kn),.c (T pr),.c (T jb),.c (T sp),.c (I n),.c (T of_),.c (I ot)]),(12,.c (I i)),(3,.p 0 0 0),(5,.p 2 0 0),(6,.p 4 0 0)] [.box [.c (I at_)],mpO encO encB ml mk,.box [.mp 1],.arr 3 1 cp (nR out),.box [.o 3 0 out.length cp],.box [.c (.r v (noRs l))]] _
  refine zB3 ?_
  refine aw_seq ?_
  refine WA ?_
  refine WA ?_
  exact wkg [some 0,some 1,some 2,some 3,some 4,some 5,some 6] (fun _=>[(7,.c (I i)),(8,.p 6 0 0),(3,.p 0 0 0),(5,.p 2 0 0),(6,.p 4 0 0)]) (fun _=>[.box [.c (I at_)],mpO encO encB ml mk,.box [.mp 1],.arr 3 1 cp (nR out),.box [.o 3 0 out.length cp],.box [.c (.r v (noRs l))],.box [.c (T st),.c (I no),.c (I xat),.c (I kn),.c (T pr),.c (T jb),.c (T sp),.c (I n),.c (T of_),.c (I ot)]]) (fun _=>⟨rfl,rfl,mk,ml,cp,hx,hm,hcp,rfl⟩)
 ·rintro E3 k ⟨i,st,no,xat,kn,pr,jb,sp,n,of_,ot⟩ F H hE3 hP3 hx ⟨rfl,mk,ml,cp,_,hm,hcp,rfl⟩
  have hE:E3.H0.length=7:=by rw[hE3];rfl
  have hE6:6≤7:=by omega
  have hP:E3.pin=false:=hP3.trans hP
  have hst:=zC6 (at_:=at_) hx
  unfold cJ
  rw[hst]
  have hol0:=zu4 at_ l k (by have:=(List.getElem?_eq_some_iff.1 hx).1;rw[zF6] at this;omega)
  have hkl:k < l.length:=by have:=(List.getElem?_eq_some_iff.1 hx).1;rwa [zF6] at this
  generalize cst at_ l k=cs at hm hcp hol0 ⊢
  obtain⟨ud,out⟩:=cs
  simp only at hm hcp hol0
  have hol:out.length≤1000000:=by omega
  have e1:(nR out).length=out.length:=by simp
  show AW _ _ _ _ [(7,.c (I i)),(8,.p 6 0 0),(3,.p 0 0 0),(5,.p 2 0 0),(6,.p 4 0 0)] [.box [.c (I at_)],mpO encO encB ml mk,.box [.mp 1],.arr 3 1 cp (nR out),.box [.o 3 0 out.length cp],.box [.c (.r v (noRs l))],.box [.c (T st),.c (I no),.c (I xat),.c (I kn),.c (T pr),.c (T jb),.c (T sp),.c (I n),.c (T of_),.c (I ot)]] _
  refine zB3 ?_
  refine ZZ ?_
  by_cases hat:at_ < xat
  ·have hs:cstp at_ (ud,out) (i,⟨st,no,xat,kn,pr,jb,sp,n,of_,ot⟩)=(ud,out):=by unfold cstp;rw[if_pos (.inl hat)]
   rw[hs]
   refine WA ?_
   refine zd rfl ?_
   refine ZZ ?_
   exact wkg [some 0,some 1,some 2,some 3,some 4,some 5,some 6] (fun _=>[]) (fun _=>[.box [.c (I at_)],mpO encO encB ml mk,.box [.mp 1],.arr 3 1 cp (nR out),.box [.o 3 0 out.length cp],.box [.c (.r v (noRs l))],.box [.c (T st),.c (I no),.c (I xat),.c (I kn),.c (T pr),.c (T jb),.c (T sp),.c (I n),.c (T of_),.c (I ot)]]) (fun _=>⟨rfl,mk,ml,cp,⟨st,no,xat,kn,pr,jb,sp,n,of_,ot⟩,hm,hcp,rfl⟩) (hF:=fun _=>.nil)
  ·obtain⟨q,hq⟩:∃q,(mget ml (st,no)).getD false=q:=⟨_,rfl⟩
   have hq2:=hm (st,no)
   rw[hq] at hq2
   refine ZR ?_
   iterate 11 refine WX1 ?_
   first|refine ZP (rd_lkO (k:=(st,no)) (l:=ml) (ck:=mk) hq rfl rfl rfl rfl) ?_|refine ZS ?_
   refine WE ?_
   cases q with
   | true=>
    have hs:cstp at_ (ud,out) (i,⟨st,no,xat,kn,pr,jb,sp,n,of_,ot⟩)=(ud,out):=by unfold cstp;rw[if_pos (.inr (List.contains_iff_mem.1 hq2.symm))]
    rw[hs]
    refine zd rfl ?_
    refine ZZ ?_
    exact wkg [some 0,some 1,some 2,some 3,some 4,some 5,some 6] (fun _=>[]) (fun _=>[.box [.c (I at_)],mpO encO encB ml mk,.box [.mp 1],.arr 3 1 cp (nR out),.box [.o 3 0 out.length cp],.box [.c (.r v (noRs l))],.box [.c (T st),.c (I no),.c (I xat),.c (I kn),.c (T pr),.c (T jb),.c (T sp),.c (I n),.c (T of_),.c (I ot)]]) (fun _=>⟨rfl,mk,ml,cp,⟨st,no,xat,kn,pr,jb,sp,n,of_,ot⟩,hm,hcp,rfl⟩) (hF:=fun _=>.nil)
   | false=>
    have hnm:(st,no)∉ud:=fun h=>by rw[List.contains_iff_mem.2 h] at hq2;cases hq2
    refine za rfl ?_
    refine WR ?_
    refine zf rfl (Zapp (news:=[[I i]]) (j:=1) (hE:=KA (t:=22) rfl) (hsrc:=.own rfl rfl rfl) (hj:=rfl) (hle:=by omega)) ?_
    rintro _ _ ⟨_,cc,hcc,rfl,rfl⟩
    refine WE ?_
    refine WA ?_
    by_cases h7:kn=7
    ·have hs:cstp at_ (ud,out) (i,⟨st,no,xat,kn,pr,jb,sp,n,of_,ot⟩)=(ud++[(of_,ot)],out++[(i:Int)]):=by unfold cstp;rw[if_neg (fun h=>h.elim hat hnm),if_pos h7]
     rw[hs]
     refine zh rfl (fun _=>?_) (fun h=>absurd h (by simp[h7]))
     refine ZR ?_
     iterate 6 refine WX1 ?_
     refine zf rfl (ef_muO (k:=(of_,ot)) (l:=ml) (ck:=mk) (z:=true) rfl rfl rfl rfl rfl rfl) ?_
     rintro _ _ ⟨rfl,rfl⟩
     refine WE ?_
     refine wkg [some 0,some 1,some 2,some 3,some 4,some 5,some 6] (fun _=>[]) (fun _=>[.box [.c (I at_)],mpO encO encB (mset mk (of_,ot) true ml) (mclk mk (of_,ot) ml),.box [.mp 1],.arr 3 1 cc (nR out++[[I i]]),.box [.o 3 0 (out.length+1) cc],.box [.c (.r v (noRs l))],.box [.c (T st),.c (I no),.c (I xat),.c (I kn),.c (T pr),.c (T jb),.c (T sp),.c (I n),.c (T of_),.c (I ot)]]) (fun _=>⟨rfl,_,_,cc,⟨st,no,xat,kn,pr,jb,sp,n,of_,ot⟩,fun s=>?_,by simp at hcc ⊢;omega,by simp only[cH,List.length_append,List.length_singleton,List.map_append];rfl⟩) (hF:=fun _=>.nil)
     rw[zK1]
     by_cases h:s=(of_,ot)
     ·rw[if_pos h,h];simp
     ·rw[if_neg h,hm,List.contains_eq_mem,List.contains_eq_mem];simp[h]
    ·have hs:cstp at_ (ud,out) (i,⟨st,no,xat,kn,pr,jb,sp,n,of_,ot⟩)=(ud,out++[(i:Int)]):=by unfold cstp;rw[if_neg (fun h=>h.elim hat hnm),if_neg h7]
     rw[hs]
     refine zh rfl (fun h=>absurd h (by simp[h7])) (fun _=>?_)
     refine ZZ ?_
     exact wkg [some 0,some 1,some 2,some 3,some 4,some 5,some 6] (fun _=>[]) (fun _=>[.box [.c (I at_)],mpO encO encB ml mk,.box [.mp 1],.arr 3 1 cc (nR out++[[I i]]),.box [.o 3 0 (out.length+1) cc],.box [.c (.r v (noRs l))],.box [.c (T st),.c (I no),.c (I xat),.c (I kn),.c (T pr),.c (T jb),.c (T sp),.c (I n),.c (T of_),.c (I ot)]]) (fun _=>⟨rfl,mk,ml,cc,⟨st,no,xat,kn,pr,jb,sp,n,of_,ot⟩,hm,by simp at hcc ⊢;omega,by simp only[cH,List.length_append,List.length_singleton,List.map_append];rfl⟩) (hF:=fun _=>.nil)
 ·obtain⟨mk,ml,cp,x,_,_,rfl⟩:=hj
  refine⟨zp8 rfl _ (fun o ho=>?_),⟨[1],rfl,by simp⟩,rfl⟩
  rw[List.mem_singleton] at ho
  subst ho
  intro y hy
  obtain⟨u,hu,rfl⟩:=List.mem_map.1 hy
  simp only[noR,List.mem_cons,List.not_mem_nil,or_false] at hu
  rcases hu with rfl|rfl|rfl|rfl|rfl|rfl|rfl|rfl|rfl|rfl <;> trivial
 ·obtain⟨mk,ml,cp,x,hm,hcp,rfl⟩:=hj
  have hE:E5.H0.length=6:=by rw[hE5];rfl
  exact wkg [some 0,some 1,some 2,some 3,some 4,some 5] (fun _=>[]) (fun _=>cH v l at_ mk ml cp (cst at_ l k).2) (fun _=>⟨mk,ml,cp,hm,hcp,rfl⟩) (hF:=fun _=>.nil)
 ·rintro E2 H hE2 hP2 hi
  rw[zF6] at hi
  obtain⟨mk,ml,cp,hm,hcp,rfl⟩:=hi
  have hP:E2.pin=false:=hP2.trans hP
  unfold cntP
  have hol0:=zu4 at_ l l.length (Nat.le_refl _)
  generalize cst at_ l l.length=cs at hm hcp hol0
  obtain⟨ud,out⟩:=cs
  simp only at hm hcp ⊢
  rw[hE]
  show AW _ _ _ _ [(3,.p 0 0 0),(5,.p 2 0 0),(6,.p 4 0 0)] [.box [.c (I at_)],mpO encO encB ml mk,.box [.mp 1],.arr 3 1 cp (nR out),.box [.o 3 0 out.length cp],.box [.c (.r v (noRs l))]] _
  have hol:out.length≤1000000:=Nat.le_trans hol0 hl
  refine WR ?_
  refine zf rfl (zX1 [3] (fun _=>[.arr 3 1 cp (nR out)]) false (fun _=>revI_a out cp hol hcp) rfl .fn rfl (by decide) (by kernel_rfl) rfl ZCH (by decide) ZCH (by simp)) ?_
  rintro F1 H1 ⟨_,_,_,_,⟨rfl,rfl⟩,hF,hH⟩
  rw[zS] at hF;(refine NSU hF hH ?_;clear hF hH;rintro rfl rfl)
  refine WE ?_
  refine WA ?_
  exact zT5 [some 3] (fun _=>[.arr 3 1 cp (nR out.reverse)]) rfl rfl rfl (by simp) rfl (by decide) (ZNK rfl) ZCH (fun _=>⟨cp,by simpa using hcp,rfl,rfl⟩)
end Go.Proofs.YtophoepbedlhjaaGreatDoor
-- NEWM
namespace Go.Proofs.YtophoepbedlhjaaGreatDoor
open Go Go.RowKit
set_option maxRecDepth 100000
def askF (l:List Nt) (at_:Int):Int:=if chkN l≠0 then chkN l else if moB at_=true then 0 else 1
theorem zI11 (v:Value) (l:List Nt) (at_:Int) (hl:l.length≤1000000) (hs:∀x∈l,NtS x):ACalls Tryz.prog 122 [.c (.r v (noRs l)),.c (I at_)] [] fun u H=>u = .c (I (askF l at_))∧H = []:=by
 obtain⟨q,hq⟩:∃q,moB at_=q:=⟨_,rfl⟩
 refine zb (N:=14) Tryz.func122 rfl rfl (by simp) fun E hE=>?_
 refine WA ?_
 refine WR ?_
 refine zf rfl (efk (c:=fun _=>zz7 v l (by omega) hs)) ?_
 rintro _ _ ⟨_,_,_,⟨rfl,rfl⟩,hF,hH⟩
 (refine NST hF hH ?_;clear hF hH;rintro rfl rfl)
 refine WE ?_
 refine WA ?_
 refine zl rfl (fun h0=>?_) (fun h0=>?_)
 ·refine WA ?_
  exact arz (q:=⟨by rw[askF,if_pos h0],rfl⟩)
 refine WR ?_
 refine zf rfl (efk (c:=fun _=>zq3 _)) ?_
 rintro _ _ ⟨_,_,_,⟨rfl,rfl⟩,hF,hH⟩
 rw[hq] at hF
 (refine NST hF hH ?_;clear hF hH;rintro rfl rfl)
 refine WE ?_
 cases q with
 | true=>
  refine za rfl ?_
  refine WA ?_
  exact arz (q:=⟨by rw[askF,if_neg h0,if_pos hq],rfl⟩)
 | false=>
  refine zd rfl ?_
  refine WA ?_
  exact arz (q:=⟨by rw[askF,if_neg h0,if_neg (by rw[hq];simp)],rfl⟩)
end Go.Proofs.YtophoepbedlhjaaGreatDoor
