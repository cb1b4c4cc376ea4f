/- The logic over values: more readers; loops; regions that draw their order; calls that are lent nothing. -/
import Derived.Test.YtophoepbedlhjaaGreatDoorQai
set_option linter.unusedSimpArgs false
set_option linter.unusedVariables false
namespace Go.Proofs.YtophoepbedlhjaaGreatDoor
open Go Go.RowKit
section
variable {P:Program} {N:Nat} {E:Env} {F:Fm} {H:List OB} {o:Oper} {Q:Exit→Fm→List OB→Prop} {S:Nat→Prop} {ρ:List (Option Nat)} {a:Act} {w:World}
theorem zm {c:Code} (I:Nat→Fm→List OB→Prop) (h0:Wk N E F H fun F H=>∃n,I n F H) (round:∀n F H,I n F H→AW P N E c F H (ASeq (fun F' H'=>Wk N E F' H' fun F H=>∃n',n' < n∧I n' F H) Q)):AW P N E (.loop c) F H Q:=fun S ρ a w hR nn=>by
 classical
 let J:Act→World→Nat→Prop:=fun a w n=>∃S ρ F H,I n F H∧R N E S ρ F H a w
 obtain⟨S0,ρ0,F0,H0,⟨n,hI0⟩,hR0⟩:=h0 S ρ a w hR
 refine wpIn_loop (fun a w=>∃n,J a w n) (fun a w=>if h:∃n,J a w n then Classical.choose (zk4 h) else 0) ⟨n,S0,ρ0,F0,H0,hI0,hR0⟩ (fun a w hI=>?_)
 obtain⟨S1,ρ1,F1,H1,hI1,hR1⟩:=(Classical.choose_spec (zk4 hI)).1
 refine wpIn_mono (round _ F1 H1 hI1 S1 ρ1 a w hR1 nn) fun e a' w' hh=>?_
 obtain⟨S',ρ',F',H',hq,hR'⟩:=hh
 cases e
 case normal=>
  obtain⟨S2,ρ2,F2,H2,⟨n',hlt,hI'⟩,hR2⟩:=hq S' ρ' a' w' hR'
  have hJ:∃n,J a' w' n:=⟨n',S2,ρ2,F2,H2,hI',hR2⟩
  refine⟨hJ, ?_⟩
  simp only[dif_pos hJ,dif_pos hI]
  exact Nat.lt_of_le_of_lt ((Classical.choose_spec (zk4 hJ)).2 n' ⟨S2,ρ2,F2,H2,hI',hR2⟩) hlt
 all_goals exact⟨S',ρ',F',H',hq,hR'⟩
theorem zB5 {c:Code} {K:Fm→List OB→Prop} (h:Wk N E F H K) (hk:∀F' H',K F' H'→AW P N E c F' H' Q):AW P N E c F H Q:=fun S ρ a w hR=>by
 obtain⟨S',ρ',F',H',h1,h2⟩:=h S ρ a w hR
 exact hk F' H' h1 S' ρ' a w h2
theorem al_wk {ops:Array Oper} {l:List Oper} {K:Fm→List OB→Prop} (h:Wk N E F H K) (hk:∀F' H',K F' H'→AL P N E ops l F' H' Q):AL P N E ops l F H Q:=fun S ρ a w hR=>by
 obtain⟨S',ρ',F',H',h1,h2⟩:=h S ρ a w hR
 exact hk F' H' h1 S' ρ' a w h2
theorem R.drew (h:R N E S ρ F H a w):R N E S ρ F H a w.drew:=
 ⟨h.df,h.sz,fun i x hx=>⟨(h.fr i x hx).1,(h.fr i x hx).2.ex (Ex.refl _ _) (fun b hb=>⟨hb,rfl⟩)⟩,
  ⟨h.hp.len,h.hp.nd,h.hp.ap,h.hp.lt,h.hp.sS,fun i o ho=>(h.hp.blk i o ho).ex (Ex.refl _ _) (fun b hb=>⟨hb,rfl⟩) (fun _ _=>rfl) (fun _ _ _=>rfl),h.hp.pl.same (fun _ _ _ h=>h) (Nat.le_refl _)⟩,h.st.drew,h.nw,h.nS,h.pw,h.ln,h.pn⟩
def AT (P:Program) (N:Nat) (E:Env) (ops:Array Oper) (L:List (Nat × Option (List Nat))) (F:Fm) (H:List OB) (Q:Exit→Fm→List OB→Prop):Prop:=∀S ρ a w,R N E S ρ F H a w→wpT P ops (fun a' w'=>lift N E Q .normal a' w') L a w
theorem zc {id:Nat} {l:List Oper} (L:List (Nat × Option (List Nat))) (hm:P.follows .mixedOrders=true) (hB:okPlan l.toArray L=true) (h:AT P N E l.toArray L F H Q):AW P N E (.region id l.toArray true) F H Q:=fun S ρ a w hR _=>
 za6 E.ok L hm hB (h S ρ a w.drew hR.drew)
variable {ops:Array Oper} {L:List (Nat × Option (List Nat))} {i:Nat}
theorem at_nil (h:Q .normal F H):AT P N E ops [] F H Q:=fun S ρ _ _ hR=>⟨S,ρ,F,H,h,hR⟩
theorem at_rd {d:Nat} {x:AV} (ho:ops[i]?=some o) (hg:o.guard=none) (hd:o.dst=some d) (hN:d < N) (hr:Rd P N E o F H x) (h:AT P N E ops L ((d,x) :: F) H Q):AT P N E ops ((i,none) :: L) F H Q:=fun S ρ a w hR=>by
 obtain⟨h1,h2⟩:=hr S ρ a w hR
 refine wpT_v ho hg h1 ?_
 rw[hd]
 exact h S ρ _ w (hR.put hN h2)
theorem at_gon {j t d:Nat} {oj:Oper} {b:Bool} {x:AV} (ho:ops[i]?=some o) (hg:o.guard=some (j,b)) (hj:ops[j]?=some oj) (ht:oj.dst=some t) (hb:F.lookup t=some (.c (.s (.bool b)))) (hd:o.dst=some d) (hN:d < N) (hr:Rd P N E o F H x)
    (h:AT P N E ops L ((d,x) :: F) H Q):AT P N E ops ((i,none) :: L) F H Q:=fun S ρ a w hR=>by
 obtain⟨h1,h2⟩:=hr S ρ a w hR
 refine wpT_r ho fun K hK=>?_
 rw[if_pos (by simp[Region.wanted,hg,zr1 hR hj ht hb])]
 unfold Oper.still
 rw[h1]
 refine⟨rfl,hK _ ?_⟩
 rw[hd]
 exact h S ρ _ w (hR.put hN h2)
def Ag (P:Program) (N:Nat) (E:Env) (ops:Array Oper) (F:Fm) (H:List OB) (j:Nat):Prop:=∀S ρ a w,R N E S ρ F H a w→again P ops j a w
theorem zF {j d:Nat} {x:AV} (ho:ops[j]?=some o) (hg:o.guard=none) (hd:o.dst=some d) (hr:Rd P N E o F H x) (hx:F.lookup d=some x):Ag P N E ops F H j:=fun S ρ a w hR=>by
 obtain⟨h1,h2⟩:=hr S ρ a w hR
 refine again_of ho fun K hK=>?_
 rw[if_pos (by simp[Region.wanted,hg])]
 unfold Oper.still
 rw[h1]
 refine⟨rfl, ?_⟩
 have:a.put o.dst (x.den ρ H)=a:=by
  have hf:=(hR.fr d x hx).1
  rw[hd]
  obtain⟨tm,df⟩:=a
  simp only[Act.put,Act.mk.injEq,and_true]
  refine Array.ext_getElem? fun k=>?_
  rw[Array.getElem?_setIfInBounds]
  split
  ·rename_i hk;subst hk;rw[hf];split
   ·rfl
   ·rename_i hlt;rw[Array.getElem?_eq_none (by simpa using hlt)] at hf;cases hf
  ·rfl
 rw[this]
 exact hK
theorem zY {U:List Nat} {K:Fm→List OB→Prop} (ho:ops[i]?=some o) (hg:o.guard=none) (hr:Ef P N E o F H K) (h:∀F' H',K F' H'→(∀j∈U,Ag P N E ops F' H' j)∧AT P N E ops L F' H' Q):AT P N E ops ((i,some U) :: L) F H Q:=fun S ρ a w hR=>by
 refine wpT_e ho fun K' hK=>?_
 rw[if_pos (by simp[Region.wanted,hg])]
 refine zT (fun a' w' hh=>?_) (hr S ρ a w hR)
 obtain⟨S',ρ',F',H',hk,hR'⟩:=hh
 obtain⟨h1,h2⟩:=h F' H' hk
 exact hK _ _ (fun j hj=>h1 j hj S' ρ' a' w' hR') (h2 S' ρ' a' w' hR')
def AM (P:Program) (N:Nat) (E:Env) (ops:Array Oper) (n:Nat) (ps:List Plan) (F:Fm) (H:List OB) (Q:Exit→Fm→List OB→Prop):Prop:=∀S ρ a w,R N E S ρ F H a w→wpM P ops (fun a' w'=>lift N E Q .normal a' w') n ps a w
theorem am_nil {ps:List Plan} (h:Q .normal F H):AM P N E ops 0 ps F H Q:=fun S ρ _ _ hR=>wpM_nil ⟨S,ρ,F,H,h,hR⟩
theorem zZ9 {n:Nat} {U:List Nat} {K:Fm→List OB→Prop} {ps ps':List Plan} (hh:headsOf ps = [(i,some U)]) (ht:tailsOf (i,some U) ps=ps') (ho:ops[i]?=some o) (hg:o.guard=none) (hr:Ef P N E o F H K) (h:∀F' H',K F' H'→(∀j∈U,Ag P N E ops F' H' j)∧AM P N E ops n ps' F' H' Q):AM P N E ops (n+1) ps F H Q:=fun S ρ a w hR=>by
 refine wpM_e hh ht ho fun K' hK=>?_
 rw[if_pos (by simp[Region.wanted,hg])]
 refine zT (fun a' w' hh=>?_) (hr S ρ a w hR)
 obtain⟨S',ρ',F',H',hk,hR'⟩:=hh
 obtain⟨h1,h2⟩:=h F' H' hk
 exact hK _ _ (fun j hj=>h1 j hj S' ρ' a' w' hR') (h2 S' ρ' a' w' hR')
theorem am_two {n j:Nat} {U V:List Nat} {ps ps1 ps2:List Plan} (hh:headsOf ps = [(i,some U),(j,some V)]) (h1:tailsOf (i,some U) ps=ps1) (h2:tailsOf (j,some V) ps=ps2) (hi:AM P N E ops (n+1) (ps1.map ((i,some U) :: ·)) F H Q) (hj:AM P N E ops (n+1) (ps2.map ((j,some V) :: ·)) F H Q) :
    AM P N E ops (n+1) ps F H Q:=fun S ρ a w hR=>wpM_two hh h1 h2 (hi S ρ a w hR) (hj S ρ a w hR)
theorem zS {g:AV→Value} {F:Fm}:killF g [] F=F:=by
 have hv:∀x,killV g [] x=x:=fun x=>by
  have hh:AV.has [] x=false:=by
   have key:∀x:AV,AV.has [] x=false:=AV.rec (motive_1:=fun x=>AV.has [] x=false) (motive_2:=fun l=>AV.hasL [] l=false)
    (fun _=>rfl) (fun _ _ _=>rfl) (fun _ _ _ _=>rfl) (fun _ _ _ _ _=>rfl) (fun l h=>h) (fun l h=>h) (fun _ l h=>h) (fun _=>rfl) rfl (fun x l h1 h2=>by simp[AV.hasL,h1,h2])
   exact key x
  unfold killV;rw[hh];rfl
 unfold killF
 rw[List.map_congr_left (g:=id) (fun e _=>by rw[hv];rfl),List.map_id]
theorem zn7 {g:AV→Value} {o:OB}:killO g [] o=o:=by
 have hv:∀x,killV g [] x=x:=fun x=>by
  have:=zS (g:=g) (F:=[(0,x)])
  simp only[killF,List.map_cons,List.map_nil,List.cons.injEq,Prod.mk.injEq,true_and,and_true] at this
  exact this
 cases o with
 | box l=>simp only[killO];rw[List.map_congr_left (g:=id) (fun x _=>hv x),List.map_id]
 | eqv x v=>simp only[killO,hv]
 | itr b s sn l=>rfl
 | boxt t l=>simp only[killO];rw[List.map_congr_left (g:=id) (fun x _=>hv x),List.map_id]
 | _=>rfl
theorem zF8 {g:AV→Value} {Hr:List OB} {h:Nat}:∀(b:Nat) (l:List OB),updH g [] [] Hr h b l=l
 | _,[]=>rfl
 | b,o :: l=>by rw[updH,zF8 (b+1) l];simp[posOf,zn7]
theorem zn {f:FuncId} {fx:Operand} {args:Array Operand} {tys:Array TypeId} {d:Nat} {vs all:List AV} {us:(AV→Value)→List AV} {Qc:(AV→Value)→AV→List OB→Prop} (fz:Bool)
    (hc:∀g,ACalls P f (us g) [] (Qc g)) (ho:o.op = .call { callee:=.value fx,args:=args,argTypes:=tys }) (hfx:Callee' F fx f vs all) (hd:o.dst=some d) (hN:d < N) (hf:okFn P f=true) (hargs:evL F args.toList=some vs)
    (hcv:∀g,CvL g [] H fz all (us g)) (hfl:fz=true→∀g u Hr,Qc g u Hr→FlatA (Known F H) u∧∀o∈Hr,FlatO (Known F H) o) :
    Ef P N E o F H fun F' H'=>∃g u Hr,Qc g u Hr∧F'=(d,u.emb [] H.length) :: F∧H'=H++Hr.map (OB.emb [] H.length):=fun S ρ a w hR=>
 zT (fun _ _ ⟨S',ρ',F',H',⟨g,u,Hr,_,h1,h2,h3⟩,h4⟩=>⟨S',ρ',F',H',⟨g,u,Hr,h1,by rw[h2];simp[lentArr,zS],by rw[h3];simp[lentArr,zF8]⟩,h4⟩)
  (zP1 [] (fun _=>[]) fz hc ho hfx hd hN hf hargs hcv List.nodup_nil (fun _=>.nil) hfl (.inl ⟨_,rfl,rfl⟩) S ρ a w hR)
theorem zb2 {n c l h:Nat} {lo hi:Option Value} (hl:(lo=none∧l=0)∨∃kd,lo=some (.int kd l)) (hh:(hi=none∧h=n)∨∃kd,hi=some (.int kd h)) (h1:l≤h) (h2:h≤c) (is:Bool):(Instr.sliceBounds is n c lo hi none).run P w = .ok (l,h,c) w:=by
 have hb1:∀(y:Nat) (m:Nat) (kd:IntKind) (code:BoundsCode),y≤m→(Instr.sliceBound (.int kd y) m code).run P w = .ok y w:=fun y m kd code hy=>by
  unfold Instr.sliceBound;simp[asIntOf];omega
 rcases hl with⟨rfl,rfl⟩|⟨kd,rfl⟩ <;> rcases hh with⟨rfl,rfl⟩|⟨kd',rfl⟩
 ·simp[Instr.sliceBounds]
 ·simp[Instr.sliceBounds,hb1 _ _ _ _ h2]
 ·simp[Instr.sliceBounds,hb1 _ _ _ _ h1]
 ·simp[Instr.sliceBounds,hb1 _ _ _ _ h1,hb1 _ _ _ _ h2]
theorem zz1 {x:Option Operand} {l d:Nat} (hR:R N E S ρ F H a w) (h:(x=none∧l=d)∨∃y kd z,x=some y∧ev F y=some (.c (.s (.int kd z)))∧z=l):(x.map a.eval=none∧l=d)∨∃kd,x.map a.eval=some (.int kd l):=by
 rcases h with⟨rfl,rfl⟩|⟨y,kd,z,rfl,e1,rfl⟩
 ·exact .inl ⟨rfl,rfl⟩
 ·exact .inr ⟨kd,by have:=(hR.ev e1).1;simp only[Option.map_some,this,AV.den,CV.den]⟩
theorem zM3 {t e:TypeId} {sz:Nat} {x:Operand} {lo hi:Option Operand} {b k n c l h cap:Nat} {rows:List (List CV)} (ho:o.op = .slice t x lo hi none) (ht:elemSz P t=some (e,sz)) (hx:ev F x=some (.o b k n c)) (hH:H[b]?=some (.arr e sz cap rows))
    (hlo:(lo=none∧l=0)∨∃y kd z,lo=some y∧ev F y=some (.c (.s (.int kd z)))∧z=l) (hhi:(hi=none∧h=n)∨∃y kd z,hi=some y∧ev F y=some (.c (.s (.int kd z)))∧z=h) (hlh:l≤h) (hhc:h≤n) (hlc:l < c):Rd P N E o F H (.o b (k+l) (h - l) (c - l)):=fun S ρ a w hR=>by
 obtain⟨h1,h2⟩:=hR.ev hx
 obtain⟨hu,inf,hinf,hs⟩:=zq ht
 have hu':(underlying t).run P w = .ok (.slice e) w:=by unfold underlying;simp[hu]
 have hz:(sizeOf e).run P w = .ok sz w:=by simp[sizeOf,typeInfo,hinf,hs]
 have hsz:szAt H b=sz:=by unfold szAt;rw[hH];rfl
 cases h2 with
 | o g0 g1 g2 g3=>
  cases hB:atB ρ b with
  | none=>have:=(g3 hB).2;omega
  | some B=>
   have hbounds:=zb2 (P:=P) (w:=w) (zz1 hR hlo) (zz1 hR hhi) hlh (Nat.le_trans hhc g1) true
   refine⟨?_,.o g0 (by omega) (by omega) (fun h=>by rw[hB] at h;cases h)⟩
   simp only[execOp,ho,h1,AV.den,hB,Option.map_some,hsz,Instr.sliceAt,Instr.slice,Sem.run_bind,hu',Result.andThen_ok,Option.map_none,hbounds,hz,Sem.run_pure]
   rw[if_neg (by omega)]
   congr 3
   simp only[Option.some.injEq]
   unfold Addr.add
   split
   ·rename_i h0;simp only[Addr.mk.injEq,and_true,true_and];rw[Nat.add_mul];omega
   ·simp only[Addr.mk.injEq,and_true,true_and];rw[Nat.add_mul]
def subV (v:Value) (l h sz:Nat):Value:=
 match v with
 | .slice ad _ c=>.slice (if c=l then ad else ad.map (·.add (l*sz))) (h - l) (c - l)
 | v=>v
theorem zD10 {t e:TypeId} {sz:Nat} {x:Operand} {lo hi:Option Operand} {l h:Nat} {v:Value} {rows:List (List CV)} (ho:o.op = .slice t x lo hi none) (ht:elemSz P t=some (e,sz)) (hx:ev F x=some (.c (.r v rows))) (hrow:∀row∈rows,row.length=sz)
    (hlo:(lo=none∧l=0)∨∃y kd z,lo=some y∧ev F y=some (.c (.s (.int kd z)))∧z=l) (hhi:(hi=none∧h=rows.length)∨∃y kd z,hi=some y∧ev F y=some (.c (.s (.int kd z)))∧z=h) (hlh:l≤h) (hhc:h≤rows.length) :
    Rd P N E o F H (.c (.r (subV v l h sz) ((rows.take h).drop l))):=fun S ρ a w hR=>by
 obtain⟨h1,h2⟩:=hR.ev hx
 obtain⟨hu,inf,hinf,hs⟩:=zq ht
 have hu':(underlying t).run P w = .ok (.slice e) w:=by unfold underlying;simp[hu]
 have hz:(sizeOf e).run P w = .ok sz w:=by simp[sizeOf,typeInfo,hinf,hs]
 have hbounds:∀n c,n=rows.length→n≤c→(Instr.sliceBounds true n c (lo.map a.eval) (hi.map a.eval) none).run P w = .ok (l,h,c) w:=fun n c hn hc=>by
  rw[hn]
  exact zb2 (zz1 hR hlo) (zz1 hR hhi) hlh (by omega) true
 cases h2 with
 | c g=>
  cases g with
  | nil A c=>
   simp only[List.length_nil] at hhc
   obtain rfl:h=0:=by omega
   obtain rfl:l=0:=by omega
   refine⟨?_,.c (.nil _ _)⟩
   simp only[execOp,ho,h1,AV.den,CV.den,Instr.sliceAt,Instr.slice,Sem.run_bind,hu',Result.andThen_ok,Option.map_none,hbounds 0 c rfl (Nat.zero_le _),hz,Sem.run_pure,subV]
  | r _ B off sz' n c hn hc hS hr hcell hg=>
   refine⟨?_,.c ?_⟩
   ·simp only[execOp,ho,h1,AV.den,CV.den,Instr.sliceAt,Instr.slice,Sem.run_bind,hu',Result.andThen_ok,Option.map_none,hbounds n c hn.symm hc,hz,Sem.run_pure,subV]
   ·have hlen:((rows.take h).drop l).length=h - l:=by simp;omega
    have hmem:∀row∈(rows.take h).drop l,row∈rows:=fun row h=>List.mem_of_mem_take (List.mem_of_mem_drop h)
    have hget:∀(k:Nat) (row:List CV),((rows.take h).drop l)[k]?=some row→rows[l+k]?=some row:=fun k row hk=>by
     rw[List.getElem?_drop,List.getElem?_take] at hk
     split at hk
     ·exact hk
     ·cases hk
    unfold subV
    simp only
    by_cases hcl:c=l
    ·rw[if_pos hcl]
     have:(rows.take h).drop l = []:=List.eq_nil_of_length_eq_zero (by omega)
     rw[this]
     exact .r [] B off sz (h - l) (c - l) (by simp;omega) (by omega) hS (fun _ h=>by cases h) (fun k j row u hk _=>by simp at hk) (fun _ h=>by cases h)
    ·rw[if_neg hcl]
     have hadd:(some (⟨B,off,none⟩:Addr)).map (·.add (l*sz))=some ⟨B,off+l*sz,none⟩:=by
      simp only[Option.map_some,Option.some.injEq]
      unfold Addr.add
      split
      ·rename_i h0;simp only[Addr.mk.injEq,and_true,true_and];omega
      ·rfl
     rw[hadd]
     refine .r _ B (off+l*sz) sz (h - l) (c - l) hlen (by omega) hS (fun row hr'=>hrow row (hmem row hr')) (fun k j row u hk hj=>?_) (fun row hr' u hu'=>hg row (hmem row hr') u hu')
     have hk':=hget k row hk
     have hss:sz'=sz:=by rw[←hr row (List.mem_of_getElem? hk'),hrow row (List.mem_of_getElem? hk')]
     subst hss
     have:=hcell (l+k) j row u hk' hj
     rw[Nat.add_mul] at this
     rw[show off+l*sz'+k*sz'+j=off+(l*sz'+k*sz')+j from by omega]
     exact this
theorem zW {ty:TypeId} {ts:Array TypeId} {x y:Operand} {kd:IntKind} {m n:Int} (ho:o.op = .call { callee:=.builtin .min,args:=#[x,y],argTypes:=ts }) (hx:ev F x=some (.c (.s (.int kd m)))) (hy:ev F y=some (.c (.s (.int kd n)))):Rd P N E o F H (.c (.s (.int kd (min m n)))):=fun S ρ a w hR=>by
 have h1:=(hR.ev hx).1
 have h2:=(hR.ev hy).1
 simp only[AV.den,CV.den] at h1 h2
 refine⟨?_,.c (.s _)⟩
 have:min m n=if n < m then n else m:=by split <;> omega
 simp[execOp,ho,resolve,invoke,builtin,h1,h2,AV.den,CV.den,Builtin.min_,Builtin.min2,this]
theorem zX {ts:Array TypeId} {x y:Operand} {kd:IntKind} {m n:Int} (ho:o.op = .call { callee:=.builtin .max,args:=#[x,y],argTypes:=ts }) (hx:ev F x=some (.c (.s (.int kd m)))) (hy:ev F y=some (.c (.s (.int kd n)))):Rd P N E o F H (.c (.s (.int kd (max m n)))):=fun S ρ a w hR=>by
 have h1:=(hR.ev hx).1
 have h2:=(hR.ev hy).1
 simp only[AV.den,CV.den] at h1 h2
 refine⟨?_,.c (.s _)⟩
 have:max m n=if m < n then n else m:=by split <;> omega
 simp[execOp,ho,resolve,invoke,builtin,h1,h2,AV.den,CV.den,Builtin.max_,Builtin.max2,this]
end
end Go.Proofs.YtophoepbedlhjaaGreatDoor
