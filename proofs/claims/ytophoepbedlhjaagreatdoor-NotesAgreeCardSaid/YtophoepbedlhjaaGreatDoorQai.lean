/- The logic over values: short forms for walks. -/
import Derived.Test.YtophoepbedlhjaaGreatDoorQah
set_option linter.unusedSimpArgs false
set_option linter.unusedVariables false
namespace Go.Proofs.YtophoepbedlhjaaGreatDoor
section
open Go Go.RowKit
section
variable {P:Program} {N:Nat} {E:Env} {F:Fm} {H:List OB} {o:Oper} {Q:Exit→Fm→List OB→Prop} {S:Nat→Prop} {ρ:List (Option Nat)} {a:Act} {w:World}
theorem zq {c:Code} (I:Nat→Fm→List OB→Prop) (h0:Wk N E F H fun F H=>∃n,I n F H) (round:∀n F H,I n F H→AW P N E c F H (ASeq (fun F' H'=>Wk N E F' H' fun F H=>∃n',n' < n∧I n' F H) Q)):AW P N E (.loop c) F H Q:=fun S ρ a w hR nn=>by
 classical
 let J:Act→World→Nat→Prop:=fun a w n=>∃S ρ F H,I n F H∧R N E S ρ F H a w
 obtain⟨S0,ρ0,F0,H0,⟨n,hI0⟩,hR0⟩:=h0 S ρ a w hR
 refine wpIn_loop (fun a w=>∃n,J a w n) (fun a w=>if h:∃n,J a w n then Classical.choose (zv4 h) else 0) ⟨n,S0,ρ0,F0,H0,hI0,hR0⟩ (fun a w hI=>?_)
 obtain⟨S1,ρ1,F1,H1,hI1,hR1⟩:=(Classical.choose_spec (zv4 hI)).1
 refine wpIn_mono (round _ F1 H1 hI1 S1 ρ1 a w hR1 nn) fun e a' w' hh=>?_
 obtain⟨S',ρ',F',H',hq,hR'⟩:=hh
 cases e
 case normal=>
  obtain⟨S2,ρ2,F2,H2,⟨n',hlt,hI'⟩,hR2⟩:=hq S' ρ' a' w' hR'
  have hJ:∃n,J a' w' n:=⟨n',S2,ρ2,F2,H2,hI',hR2⟩
  refine⟨hJ, ?_⟩
  simp only[dif_pos hJ,dif_pos hI]
  exact Nat.lt_of_le_of_lt ((Classical.choose_spec (zv4 hJ)).2 n' ⟨S2,ρ2,F2,H2,hI',hR2⟩) hlt
 all_goals exact⟨S',ρ',F',H',hq,hR'⟩
theorem zQ4 {c:Code} {K:Fm→List OB→Prop} (h:Wk N E F H K) (hk:∀F' H',K F' H'→AW P N E c F' H' Q):AW P N E c F H Q:=fun S ρ a w hR=>by
 obtain⟨S',ρ',F',H',h1,h2⟩:=h S ρ a w hR
 exact hk F' H' h1 S' ρ' a w h2
theorem zD18 {ops:Array Oper} {l:List Oper} {K:Fm→List OB→Prop} (h:Wk N E F H K) (hk:∀F' H',K F' H'→AL P N E ops l F' H' Q):AL P N E ops l F H Q:=fun S ρ a w hR=>by
 obtain⟨S',ρ',F',H',h1,h2⟩:=h S ρ a w hR
 exact hk F' H' h1 S' ρ' a w h2
theorem R.drew (h:R N E S ρ F H a w):R N E S ρ F H a w.drew:=
 ⟨h.df,h.sz,fun i x hx=>⟨(h.fr i x hx).1,(h.fr i x hx).2.ex (Ex.refl _ _) (fun b hb=>⟨hb,rfl⟩)⟩,
  ⟨h.hp.len,h.hp.nd,h.hp.ap,h.hp.lt,h.hp.sS,fun i o ho=>(h.hp.blk i o ho).ex (Ex.refl _ _) (fun b hb=>⟨hb,rfl⟩) (fun _ _=>rfl) (fun _ _ _=>rfl),h.hp.pl.same (fun _ _ _ h=>h) (Nat.le_refl _)⟩,h.st.drew,h.nw,h.nS,h.pw,h.ln,h.pn⟩
def AT (P:Program) (N:Nat) (E:Env) (ops:Array Oper) (L:List (Nat × Option (List Nat))) (F:Fm) (H:List OB) (Q:Exit→Fm→List OB→Prop):Prop:=∀S ρ a w,R N E S ρ F H a w→wpT P ops (fun a' w'=>lift N E Q .normal a' w') L a w
theorem zd {id:Nat} {l:List Oper} (L:List (Nat × Option (List Nat))) (hm:P.follows .mixedOrders=true) (hB:okPlan l.toArray L=true) (h:AT P N E l.toArray L F H Q):AW P N E (.region id l.toArray true) F H Q:=fun S ρ a w hR _=>
 zH6 E.ok L hm hB (h S ρ a w.drew hR.drew)
variable {ops:Array Oper} {L:List (Nat × Option (List Nat))} {i:Nat}
theorem zZ17 (h:Q .normal F H):AT P N E ops [] F H Q:=fun S ρ _ _ hR=>⟨S,ρ,F,H,h,hR⟩
theorem zA18 {d:Nat} {x:AV} (ho:ops[i]?=some o) (hg:o.guard=none) (hd:o.dst=some d) (hN:d < N) (hr:Rd P N E o F H x) (h:AT P N E ops L ((d,x) :: F) H Q):AT P N E ops ((i,none) :: L) F H Q:=fun S ρ a w hR=>by
 obtain⟨h1,h2⟩:=hr S ρ a w hR
 refine zo18 ho hg h1 ?_
 rw[hd]
 exact h S ρ _ w (hR.put hN h2)
theorem za18 {j t d:Nat} {oj:Oper} {b:Bool} {x:AV} (ho:ops[i]?=some o) (hg:o.guard=some (j,b)) (hj:ops[j]?=some oj) (ht:oj.dst=some t) (hb:F.lookup t=some (.c (.s (.bool b)))) (hd:o.dst=some d) (hN:d < N) (hr:Rd P N E o F H x)
    (h:AT P N E ops L ((d,x) :: F) H Q):AT P N E ops ((i,none) :: L) F H Q:=fun S ρ a w hR=>by
 obtain⟨h1,h2⟩:=hr S ρ a w hR
 refine zr13 ho fun K hK=>?_
 rw[if_pos (by simp[Region.wanted,hg,zH1 hR hj ht hb])]
 unfold Oper.still
 rw[h1]
 refine⟨rfl,hK _ ?_⟩
 rw[hd]
 exact h S ρ _ w (hR.put hN h2)
def Ag (P:Program) (N:Nat) (E:Env) (ops:Array Oper) (F:Fm) (H:List OB) (j:Nat):Prop:=∀S ρ a w,R N E S ρ F H a w→again P ops j a w
theorem zu {j d:Nat} {x:AV} (ho:ops[j]?=some o) (hg:o.guard=none) (hd:o.dst=some d) (hr:Rd P N E o F H x) (hx:F.lookup d=some x):Ag P N E ops F H j:=fun S ρ a w hR=>by
 obtain⟨h1,h2⟩:=hr S ρ a w hR
 refine zC7 ho fun K hK=>?_
 rw[if_pos (by simp[Region.wanted,hg])]
 unfold Oper.still
 rw[h1]
 refine⟨rfl, ?_⟩
 have:a.put o.dst (x.den ρ H)=a:=by
  have hf:=(hR.fr d x hx).1
  rw[hd]
  obtain⟨tm,df⟩:=a
  simp only[Act.put,Act.mk.injEq,and_true]
  refine Array.ext_getElem? fun k=>?_
  rw[Array.getElem?_setIfInBounds]
  split
  ·rename_i hk;subst hk;rw[hf];split
   ·rfl
   ·rename_i hlt;rw[Array.getElem?_eq_none (by simpa using hlt)] at hf;cases hf
  ·rfl
 rw[this]
 exact hK
theorem zt1 {U:List Nat} {K:Fm→List OB→Prop} (ho:ops[i]?=some o) (hg:o.guard=none) (hr:Ef P N E o F H K) (h:∀F' H',K F' H'→(∀j∈U,Ag P N E ops F' H' j)∧AT P N E ops L F' H' Q):AT P N E ops ((i,some U) :: L) F H Q:=fun S ρ a w hR=>by
 refine zs13 ho fun K' hK=>?_
 rw[if_pos (by simp[Region.wanted,hg])]
 refine zZ (fun a' w' hh=>?_) (hr S ρ a w hR)
 obtain⟨S',ρ',F',H',hk,hR'⟩:=hh
 obtain⟨h1,h2⟩:=h F' H' hk
 exact hK _ _ (fun j hj=>h1 j hj S' ρ' a' w' hR') (h2 S' ρ' a' w' hR')
def AM (P:Program) (N:Nat) (E:Env) (ops:Array Oper) (n:Nat) (ps:List Plan) (F:Fm) (H:List OB) (Q:Exit→Fm→List OB→Prop):Prop:=∀S ρ a w,R N E S ρ F H a w→wpM P ops (fun a' w'=>lift N E Q .normal a' w') n ps a w
theorem zg18 {ps:List Plan} (h:Q .normal F H):AM P N E ops 0 ps F H Q:=fun S ρ _ _ hR=>zT14 ⟨S,ρ,F,H,h,hR⟩
theorem zC18 {n d:Nat} {ps ps':List Plan} {x:AV} (hh:headsOf ps = [(i,none)]) (ht:tailsOf (i,none) ps=ps') (ho:ops[i]?=some o) (hg:o.guard=none) (hd:o.dst=some d) (hN:d < N) (hr:Rd P N E o F H x) (h:AM P N E ops n ps' ((d,x) :: F) H Q):AM P N E ops (n+1) ps F H Q:=fun S ρ a w hR=>by
 obtain⟨h1,h2⟩:=hr S ρ a w hR
 refine zS14 hh ht ho fun K hK=>?_
 rw[if_pos (by simp[Region.wanted,hg])]
 unfold Oper.still
 rw[h1]
 refine⟨rfl,hK _ ?_⟩
 rw[hd]
 exact h S ρ _ w (hR.put hN h2)
theorem zV {n:Nat} {U:List Nat} {K:Fm→List OB→Prop} {ps ps':List Plan} (hh:headsOf ps = [(i,some U)]) (ht:tailsOf (i,some U) ps=ps') (ho:ops[i]?=some o) (hg:o.guard=none) (hr:Ef P N E o F H K) (h:∀F' H',K F' H'→(∀j∈U,Ag P N E ops F' H' j)∧AM P N E ops n ps' F' H' Q):AM P N E ops (n+1) ps F H Q:=fun S ρ a w hR=>by
 refine zM16 hh ht ho fun K' hK=>?_
 rw[if_pos (by simp[Region.wanted,hg])]
 refine zZ (fun a' w' hh=>?_) (hr S ρ a w hR)
 obtain⟨S',ρ',F',H',hk,hR'⟩:=hh
 obtain⟨h1,h2⟩:=h F' H' hk
 exact hK _ _ (fun j hj=>h1 j hj S' ρ' a' w' hR') (h2 S' ρ' a' w' hR')
theorem zp2 {n j:Nat} {U V:List Nat} {ps ps1 ps2:List Plan} (hh:headsOf ps = [(i,some U),(j,some V)]) (h1:tailsOf (i,some U) ps=ps1) (h2:tailsOf (j,some V) ps=ps2) (hi:AM P N E ops (n+1) (ps1.map ((i,some U) :: ·)) F H Q) (hj:AM P N E ops (n+1) (ps2.map ((j,some V) :: ·)) F H Q) :
    AM P N E ops (n+1) ps F H Q:=fun S ρ a w hR=>zR14 hh h1 h2 (hi S ρ a w hR) (hj S ρ a w hR)
theorem zF {g:AV→Value} {F:Fm}:killF g [] F=F:=by
 have hv:∀x,killV g [] x=x:=fun x=>by
  have hh:AV.has [] x=false:=by
   have key:∀x:AV,AV.has [] x=false:=AV.rec (motive_1:=fun x=>AV.has [] x=false) (motive_2:=fun l=>AV.hasL [] l=false)
    (fun _=>rfl) (fun _ _ _=>rfl) (fun _ _ _ _=>rfl) (fun _ _ _ _ _=>rfl) (fun l h=>h) (fun l h=>h) (fun _ l h=>h) (fun _=>rfl) rfl (fun x l h1 h2=>by simp[AV.hasL,h1,h2])
   exact key x
  unfold killV;rw[hh];rfl
 unfold killF
 rw[List.map_congr_left (g:=id) (fun e _=>by rw[hv];rfl),List.map_id]
theorem zl8 {g:AV→Value} {o:OB}:killO g [] o=o:=by
 have hv:∀x,killV g [] x=x:=fun x=>by
  have:=zF (g:=g) (F:=[(0,x)])
  simp only[killF,List.map_cons,List.map_nil,List.cons.injEq,Prod.mk.injEq,true_and,and_true] at this
  exact this
 cases o with
 | box l=>simp only[killO];rw[List.map_congr_left (g:=id) (fun x _=>hv x),List.map_id]
 | eqv x v=>simp only[killO,hv]
 | itr b s sn l=>rfl
 | boxt t l=>simp only[killO];rw[List.map_congr_left (g:=id) (fun x _=>hv x),List.map_id]
 | _=>rfl
theorem zJ6 {g:AV→Value} {Hr:List OB} {h:Nat}:∀(b:Nat) (l:List OB),updH g [] [] Hr h b l=l
 | _,[]=>rfl
 | b,o :: l=>by rw[updH,zJ6 (b+1) l];simp[posOf,zl8]
theorem zz {f:FuncId} {fx:Operand} {args:Array Operand} {tys:Array TypeId} {d:Nat} {vs all:List AV} {us:(AV→Value)→List AV} {Qc:(AV→Value)→AV→List OB→Prop} (fz:Bool)
    (hc:∀g,ACalls P f (us g) [] (Qc g)) (ho:o.op = .call { callee:=.value fx,args:=args,argTypes:=tys }) (hfx:Callee' F fx f vs all) (hd:o.dst=some d) (hN:d < N) (hf:okFn P f=true) (hargs:evL F args.toList=some vs)
    (hcv:∀g,CvL g [] H fz all (us g)) (hfl:fz=true→∀g u Hr,Qc g u Hr→FlatA (Known F H) u∧∀o∈Hr,FlatO (Known F H) o) :
    Ef P N E o F H fun F' H'=>∃g u Hr,Qc g u Hr∧F'=(d,u.emb [] H.length) :: F∧H'=H++Hr.map (OB.emb [] H.length):=fun S ρ a w hR=>
 zZ (fun _ _ ⟨S',ρ',F',H',⟨g,u,Hr,_,h1,h2,h3⟩,h4⟩=>⟨S',ρ',F',H',⟨g,u,Hr,h1,by rw[h2];simp[lentArr,zF],by rw[h3];simp[lentArr,zJ6]⟩,h4⟩)
  (zO [] (fun _=>[]) fz hc ho hfx hd hN hf hargs hcv List.nodup_nil (fun _=>.nil) hfl (.inl ⟨_,rfl,rfl⟩) S ρ a w hR)
theorem zA2 {n c l h:Nat} {lo hi:Option Value} (hl:(lo=none∧l=0)∨∃kd,lo=some (.int kd l)) (hh:(hi=none∧h=n)∨∃kd,hi=some (.int kd h)) (h1:l≤h) (h2:h≤c) (is:Bool):(Instr.sliceBounds is n c lo hi none).run P w = .ok (l,h,c) w:=by
 have hb1:∀(y:Nat) (m:Nat) (kd:IntKind) (code:BoundsCode),y≤m→(Instr.sliceBound (.int kd y) m code).run P w = .ok y w:=fun y m kd code hy=>by
  unfold Instr.sliceBound;simp[asIntOf];omega
 rcases hl with⟨rfl,rfl⟩|⟨kd,rfl⟩ <;> rcases hh with⟨rfl,rfl⟩|⟨kd',rfl⟩
 ·simp[Instr.sliceBounds]
 ·simp[Instr.sliceBounds,hb1 _ _ _ _ h2]
 ·simp[Instr.sliceBounds,hb1 _ _ _ _ h1]
 ·simp[Instr.sliceBounds,hb1 _ _ _ _ h1,hb1 _ _ _ _ h2]
theorem zu2 {x:Option Operand} {l d:Nat} (hR:R N E S ρ F H a w) (h:(x=none∧l=d)∨∃y kd z,x=some y∧ev F y=some (.c (.s (.int kd z)))∧z=l):(x.map a.eval=none∧l=d)∨∃kd,x.map a.eval=some (.int kd l):=by
 rcases h with⟨rfl,rfl⟩|⟨y,kd,z,rfl,e1,rfl⟩
 ·exact .inl ⟨rfl,rfl⟩
 ·exact .inr ⟨kd,by have:=(hR.ev e1).1;simp only[Option.map_some,this,AV.den,CV.den]⟩
theorem zP9 {t e:TypeId} {sz:Nat} {x:Operand} {lo hi:Option Operand} {b k n c l h cap:Nat} {rows:List (List CV)} (ho:o.op = .slice t x lo hi none) (ht:elemSz P t=some (e,sz)) (hx:ev F x=some (.o b k n c)) (hH:H[b]?=some (.arr e sz cap rows))
    (hlo:(lo=none∧l=0)∨∃y kd z,lo=some y∧ev F y=some (.c (.s (.int kd z)))∧z=l) (hhi:(hi=none∧h=n)∨∃y kd z,hi=some y∧ev F y=some (.c (.s (.int kd z)))∧z=h) (hlh:l≤h) (hhc:h≤n) (hlc:l < c):Rd P N E o F H (.o b (k+l) (h - l) (c - l)):=fun S ρ a w hR=>by
 obtain⟨h1,h2⟩:=hR.ev hx
 obtain⟨hu,inf,hinf,hs⟩:=zw ht
 have hu':(underlying t).run P w = .ok (.slice e) w:=by unfold underlying;simp[hu]
 have hz:(sizeOf e).run P w = .ok sz w:=by simp[sizeOf,typeInfo,hinf,hs]
 have hsz:szAt H b=sz:=by unfold szAt;rw[hH];rfl
 cases h2 with
 | o g0 g1 g2 g3=>
  cases hB:atB ρ b with
  | none=>have:=(g3 hB).2;omega
  | some B=>
   have hbounds:=zA2 (P:=P) (w:=w) (zu2 hR hlo) (zu2 hR hhi) hlh (Nat.le_trans hhc g1) true
   refine⟨?_,.o g0 (by omega) (by omega) (fun h=>by rw[hB] at h;cases h)⟩
   simp only[execOp,ho,h1,AV.den,hB,Option.map_some,hsz,Instr.sliceAt,Instr.slice,Sem.run_bind,hu',Result.andThen_ok,Option.map_none,hbounds,hz,Sem.run_pure]
   rw[if_neg (by omega)]
   congr 3
   simp only[Option.some.injEq]
   unfold Addr.add
   split
   ·rename_i h0;simp only[Addr.mk.injEq,and_true,true_and];rw[Nat.add_mul];omega
   ·simp only[Addr.mk.injEq,and_true,true_and];rw[Nat.add_mul]
def subV (v:Value) (l h sz:Nat):Value:=
 match v with
 | .slice ad _ c=>.slice (if c=l then ad else ad.map (·.add (l*sz))) (h - l) (c - l)
 | v=>v
theorem zj5 {t e:TypeId} {sz:Nat} {x:Operand} {lo hi:Option Operand} {l h:Nat} {v:Value} {rows:List (List CV)} (ho:o.op = .slice t x lo hi none) (ht:elemSz P t=some (e,sz)) (hx:ev F x=some (.c (.r v rows))) (hrow:∀row∈rows,row.length=sz)
    (hlo:(lo=none∧l=0)∨∃y kd z,lo=some y∧ev F y=some (.c (.s (.int kd z)))∧z=l) (hhi:(hi=none∧h=rows.length)∨∃y kd z,hi=some y∧ev F y=some (.c (.s (.int kd z)))∧z=h) (hlh:l≤h) (hhc:h≤rows.length) :
    Rd P N E o F H (.c (.r (subV v l h sz) ((rows.take h).drop l))):=fun S ρ a w hR=>by
 obtain⟨h1,h2⟩:=hR.ev hx
 obtain⟨hu,inf,hinf,hs⟩:=zw ht
 have hu':(underlying t).run P w = .ok (.slice e) w:=by unfold underlying;simp[hu]
 have hz:(sizeOf e).run P w = .ok sz w:=by simp[sizeOf,typeInfo,hinf,hs]
 have hbounds:∀n c,n=rows.length→n≤c→(Instr.sliceBounds true n c (lo.map a.eval) (hi.map a.eval) none).run P w = .ok (l,h,c) w:=fun n c hn hc=>by
  rw[hn]
  exact zA2 (zu2 hR hlo) (zu2 hR hhi) hlh (by omega) true
 cases h2 with
 | c g=>
  cases g with
  | nil A c=>
   simp only[List.length_nil] at hhc
   obtain rfl:h=0:=by omega
   obtain rfl:l=0:=by omega
   refine⟨?_,.c (.nil _ _)⟩
   simp only[execOp,ho,h1,AV.den,CV.den,Instr.sliceAt,Instr.slice,Sem.run_bind,hu',Result.andThen_ok,Option.map_none,hbounds 0 c rfl (Nat.zero_le _),hz,Sem.run_pure,subV]
  | r _ B off sz' n c hn hc hS hr hcell hg=>
   refine⟨?_,.c ?_⟩
   ·simp only[execOp,ho,h1,AV.den,CV.den,Instr.sliceAt,Instr.slice,Sem.run_bind,hu',Result.andThen_ok,Option.map_none,hbounds n c hn.symm hc,hz,Sem.run_pure,subV]
   ·have hlen:((rows.take h).drop l).length=h - l:=by simp;omega
    have hmem:∀row∈(rows.take h).drop l,row∈rows:=fun row h=>List.mem_of_mem_take (List.mem_of_mem_drop h)
    have hget:∀(k:Nat) (row:List CV),((rows.take h).drop l)[k]?=some row→rows[l+k]?=some row:=fun k row hk=>by
     rw[List.getElem?_drop,List.getElem?_take] at hk
     split at hk
     ·exact hk
     ·cases hk
    unfold subV
    simp only
    by_cases hcl:c=l
    ·rw[if_pos hcl]
     have:(rows.take h).drop l = []:=List.eq_nil_of_length_eq_zero (by omega)
     rw[this]
     exact .r [] B off sz (h - l) (c - l) (by simp;omega) (by omega) hS (fun _ h=>by cases h) (fun k j row u hk _=>by simp at hk) (fun _ h=>by cases h)
    ·rw[if_neg hcl]
     have hadd:(some (⟨B,off,none⟩:Addr)).map (·.add (l*sz))=some ⟨B,off+l*sz,none⟩:=by
      simp only[Option.map_some,Option.some.injEq]
      unfold Addr.add
      split
      ·rename_i h0;simp only[Addr.mk.injEq,and_true,true_and];omega
      ·rfl
     rw[hadd]
     refine .r _ B (off+l*sz) sz (h - l) (c - l) hlen (by omega) hS (fun row hr'=>hrow row (hmem row hr')) (fun k j row u hk hj=>?_) (fun row hr' u hu'=>hg row (hmem row hr') u hu')
     have hk':=hget k row hk
     have hss:sz'=sz:=by rw[←hr row (List.mem_of_getElem? hk'),hrow row (List.mem_of_getElem? hk')]
     subst hss
     have:=hcell (l+k) j row u hk' hj
     rw[Nat.add_mul] at this
     rw[show off+l*sz'+k*sz'+j=off+(l*sz'+k*sz')+j from by omega]
     exact this
theorem zf1 {ty:TypeId} {ts:Array TypeId} {x y:Operand} {kd:IntKind} {m n:Int} (ho:o.op = .call { callee:=.builtin .min,args:=#[x,y],argTypes:=ts }) (hx:ev F x=some (.c (.s (.int kd m)))) (hy:ev F y=some (.c (.s (.int kd n)))):Rd P N E o F H (.c (.s (.int kd (min m n)))):=fun S ρ a w hR=>by
 have h1:=(hR.ev hx).1
 have h2:=(hR.ev hy).1
 simp only[AV.den,CV.den] at h1 h2
 refine⟨?_,.c (.s _)⟩
 have:min m n=if n < m then n else m:=by split <;> omega
 simp[execOp,ho,resolve,invoke,builtin,h1,h2,AV.den,CV.den,Builtin.min_,Builtin.min2,this]
theorem zg1 {ts:Array TypeId} {x y:Operand} {kd:IntKind} {m n:Int} (ho:o.op = .call { callee:=.builtin .max,args:=#[x,y],argTypes:=ts }) (hx:ev F x=some (.c (.s (.int kd m)))) (hy:ev F y=some (.c (.s (.int kd n)))):Rd P N E o F H (.c (.s (.int kd (max m n)))):=fun S ρ a w hR=>by
 have h1:=(hR.ev hx).1
 have h2:=(hR.ev hy).1
 simp only[AV.den,CV.den] at h1 h2
 refine⟨?_,.c (.s _)⟩
 have:max m n=if m < n then n else m:=by split <;> omega
 simp[execOp,ho,resolve,invoke,builtin,h1,h2,AV.den,CV.den,Builtin.max_,Builtin.max2,this]
end
end
section
open Go Go.RowKit
section
variable {P:Program} {N:Nat} {E:Env} {F:Fm} {H:List OB} {o:Oper} {Q:Exit→Fm→List OB→Prop} {ops:Array Oper} {rest:List Oper}
variable {t yt:TypeId} {x y:Operand} {m n:Int}
theorem zw15 (ho:o.op = .binOp .quo t x y yt) (hx:ev F x=some (.c (.s (.int .i64 m)))) (hy:ev F y=some (.c (.s (.int .i64 n)))) (h:0≤m∧m≤9223372036854775807∧1≤n):Rd P N E o F H (.c (.s (.int .i64 (m / n)))):=by
 have h1:=zW11 (P:=P) (N:=N) (E:=E) (H:=H) ho hx hy (by omega)
 have h2:=IntWalk.i64_quo m n h
 rw[IntWalk.i64_left] at h2
 rwa [h2] at h1
theorem zv15 (ho:o.op = .binOp .rem t x y yt) (hx:ev F x=some (.c (.s (.int .i64 m)))) (hy:ev F y=some (.c (.s (.int .i64 n)))) (h:0≤m∧1≤n):Rd P N E o F H (.c (.s (.int .i64 (m % n)))):=by
 have h1:=zu14 (P:=P) (N:=N) (E:=E) (H:=H) ho hx hy (by omega)
 rwa [IntWalk.rem_in m n h.1] at h1
theorem zi18 {F2:Fm} {H2:List OB} (hg:o.guard=none) (hr:Ef P N E o F H fun F' H'=>F'=F2∧H'=H2) (h:AL P N E ops rest F2 H2 Q):AL P N E ops (o :: rest) F H Q:=
 ze hg hr fun _ _ ⟨h1,h2⟩=>by subst h1;subst h2;exact h
theorem zb18 {F2:Fm} {H2:List OB} {i:Nat} {U:List Nat} {L:List (Nat × Option (List Nat))} (ho:ops[i]?=some o) (hg:o.guard=none) (hr:Ef P N E o F H fun F' H'=>F'=F2∧H'=H2) (hU:∀j∈U,Ag P N E ops F2 H2 j) (h:AT P N E ops L F2 H2 Q):AT P N E ops ((i,some U) :: L) F H Q:=
 zt1 ho hg hr fun _ _ ⟨h1,h2⟩=>by subst h1;subst h2;exact⟨hU,h⟩
theorem zz3 {id:Nat} {l:List Oper} (ps:List Plan) (hm:P.follows .mixedOrders=true) (hB:okPlans l.toArray ps=true) (h:AM P N E l.toArray l.length ps F H Q):AW P N E (.region id l.toArray true) F H Q:=fun S ρ a w hR _=>
 zY3 E.ok ps hm hB (h S ρ a w.drew hR.drew)
theorem zh:∀j∈([]:List Nat),Ag P N E ops F H j:=fun _ h=>by cases h
theorem zg {j:Nat} {U:List Nat} (h:Ag P N E ops F H j) (hU:∀k∈U,Ag P N E ops F H k):∀k∈j :: U,Ag P N E ops F H k:=fun k hk=>by
 rcases List.mem_cons.1 hk with rfl|hk
 ·exact h
 ·exact hU k hk
theorem zl {c:Operand} {x y:Code} {p:Prop} [Decidable p] (hc:ev F c=some (.c (.s (.bool (decide p))))) (ht:p→AW P N E x F H Q) (hf:¬p→AW P N E y F H Q):AW P N E (.cond c x y) F H Q:=
 zj hc (fun h=>ht (of_decide_eq_true h)) (fun h=>hf (of_decide_eq_false h))
theorem zo {c:Operand} {x y:Code} {p:Prop} [Decidable p] (hc:ev F c=some (.c (.s (.bool (decide p))))) (hp:p) (ht:AW P N E x F H Q):AW P N E (.cond c x y) F H Q:=zl hc (fun _=>ht) (fun h=>absurd hp h)
theorem zm {c:Operand} {x y:Code} {p:Prop} [Decidable p] (hc:ev F c=some (.c (.s (.bool (decide p))))) (hp:¬p) (hf:AW P N E y F H Q):AW P N E (.cond c x y) F H Q:=zl hc (fun h=>absurd h hp) (fun _=>hf)
theorem zA {fn:Func} {nl:Nat} {Qr:AV→List OB→Prop} {us:List AV} (m:List (Option Nat)) (u':(AV→Value)→AV) (H':(AV→Value)→List OB) (hres:ResL P F H fn.results.toList us) (hm:(m.filterMap id).Nodup) (hl:∀i,i < nl→m[i]?=some (some i))
    (hu:∀g,Cvt g m H true (resOf us) (u' g)) (hH:∀g,CvH g m H true m (H' g)) (hq:∀g,Qr (u' g) (H' g)):ARet P fn nl Qr .ret F H:=⟨.inl rfl,us,hres,m,u',H',hm,hl,hu,hH,hq⟩
theorem zI13 {kd:IntKind} (ho:o.op = .binOp .geq t x y yt) (hx:ev F x=some (.c (.s (.int kd m)))) (hy:ev F y=some (.c (.s (.int kd n)))) (h:n≤m):Rd P N E o F H (.c (.s (.bool true))):=by
 have:=zZ11 (P:=P) (N:=N) (E:=E) (H:=H) ho hx hy
 rwa [decide_eq_true h] at this
theorem zJ13 {kd:IntKind} (ho:o.op = .binOp .geq t x y yt) (hx:ev F x=some (.c (.s (.int kd m)))) (hy:ev F y=some (.c (.s (.int kd n)))) (h:¬(n≤m)):Rd P N E o F H (.c (.s (.bool false))):=by
 have:=zZ11 (P:=P) (N:=N) (E:=E) (H:=H) ho hx hy
 rwa [decide_eq_false h] at this
theorem zm5 {x:Operand} {v z:AV} {cs cs':List AV} (ho:o.op = .load t x) (ht:ldk P t=some none) (hx:ev F x=some v) (hc:Cells H v cs) (hn:cs=z :: cs'):Rd P N E o F H z:=by subst hn;exact zn5 ho ht hx hc
theorem zQ9 {x:Operand} {v:AV} {cs cs':List AV} {k:Nat} (ho:o.op = .load t x) (ht:ldk P t=some (some k)) (hx:ev F x=some v) (hc:Cells H v cs) (hn:cs.take k=cs') (hl:k≤cs.length):Rd P N E o F H (.a cs'):=by subst hn;exact zH13 ho ht hx hc hl
theorem zO12 {d b:Nat} {z:Value} {vs:List Value} {H2:List OB} (ho:o.op = .alloc t) (hd:o.dst=some d) (hN:d < N) (hz:(P.info? t).bind (·.zero)=some z) (hc:z.cells=vs.toArray) (h1:vs.all Value.oneCell'=true) (hb:H.length=b) (hH:H++[.box (vs.map fun v=>.c (cvOf v))]=H2) :
    Ef P N E o F H fun F' H'=>F'=(d,.p b 0 0) :: F∧H'=H2:=by subst hb;subst hH;exact zw7 ho hd hN hz hc h1
theorem zf16 {d b:Nat} {v:AV} {l:List AV} {H2:List OB} (ho:o.op = .box t x) (hd:o.dst=some d) (hN:d < N) (hx:ev F x=some v) (hl:cellsOf v=l) (h1:l.all AV.one=true) (hb:H.length=b) (hH:H++[.box l]=H2) :
    Ef P N E o F H fun F' H'=>F'=(d,.p b 0 0) :: F∧H'=H2:=by subst hb;subst hH;exact zP17 ho hd hN hx hl h1
theorem zk3 {v:AV} {b j k:Nat} {l l':List AV} {H2:List OB} (ho:o.op = .store t x y) (hd:o.dst=none) (hx:ev F x=some (.p b 0 j)) (hH:H[b]?=some (.box l)) (hy:ev F y=some v) (ht:(P.info? t).map (·.size)=some k) (hn:(cellsOf v).length=k)
    (hj:j+k≤l.length) (h1:(cellsOf v).all AV.one=true) (hl:putL l j (cellsOf v)=l') (hH2:H.set b (.box l')=H2):Ef P N E o F H fun F' H'=>F'=F∧H'=H2:=by subst hH2;exact zZ13 ho hd hx hH hy ht hn hj h1 hl
theorem zs6 {v:AV} {b k j q sz cap:Nat} {e:TypeId} {rows:List (List CV)} {row us row':List CV} {H2:List OB} (ho:o.op = .store t x y) (hd:o.dst=none) (hx:ev F x=some (.p b k j)) (hH:H[b]?=some (.arr e sz cap rows)) (hk:rows[k]?=some row) (hy:ev F y=some v)
    (hu:uncl (cellsOf v)=some us) (ht:(P.info? t).map (·.size)=some q) (hn:us.length=q) (hj:j+q≤row.length) (h1:us.all CV.one=true) (hl:putL row j us=row') (hH2:H.set b (.arr e sz cap (rows.set k row'))=H2) :
    Ef P N E o F H fun F' H'=>F'=F∧H'=H2:=by subst hH2;exact zI12 ho hd hx hH hk hy hu ht hn hj h1 hl
theorem zX5 {e:TypeId} {sz k d b:Nat} {ps:Array (Nat × Operand)} {rows:List (List CV)} {z:Value} {H2:List OB} (ho:o.op = .buildSlice t k ps) (hd:o.dst=some d) (hN:d < N) (ht:elemSz P t=some (e,sz)) (hp:Parts F 0 ps.toList rows) (hn:rows.length=k)
    (hz:(P.info? e).bind (·.zero)=some z) (hzs:z.cells.size=sz) (hr:rows.all (fun row=>row.length == sz && row.all CV.one)=true) (hle:k*sz≤16777216) (hnm:k≤16777216) (hb:H.length=b) (hH:H++[.arr e sz k rows]=H2) :
    Ef P N E o F H fun F' H'=>F'=(d,.o b 0 k k) :: F∧H'=H2:=by subst hb;subst hH;exact zv7 ho hd hN ht hp hn hz hzs hr hle hnm
theorem za14 {e:TypeId} {sz d by_ l c b:Nat} {kx ky:IntKind} {z:Value} {vs:List Value} {zx zy:Int} {H2:List OB} (ho:o.op = .makeSlice t x y) (hd:o.dst=some d) (hN:d < N) (ht:P.underlying t=some (.slice e)) (hi:(P.info? e).map (fun i=>(i.zero,i.size,i.bytes))=some (some z,sz,by_))
    (hx:ev F x=some (.c (.s (.int kx zx)))) (hzx:zx=l) (hy:ev F y=some (.c (.s (.int ky zy)))) (hzy:zy=c) (hlc:l≤c) (hb':by_*c≤281474976710656) (hc:c≤281474976710656) (hvs:z.cells=vs.toArray) (hsz:vs.length=sz) (h1:vs.all Value.oneCell'=true) (hb:H.length=b) (hH:H++[.arr e sz c (List.replicate c (vs.map cvOf))]=H2) :
    Ef P N E o F H fun F' H'=>F'=(d,.o b 0 l c) :: F∧H'=H2:=by subst hb;subst hH;subst hzx;subst hzy;exact zd16 ho hd hN ht hi hx hy hlc hb' hc hvs hsz h1
theorem zi16 {e:TypeId} {sz d b k cap j:Nat} {s x:Operand} {v:AV} {rows news:List (List CV)} {F2 H2:(AV→Value)→Nat→_} (ho:o.op = .call { callee:=.builtin .append,args:=#[s,x],argTypes:=#[t,t] }) (hd:o.dst=some d) (hN:d < N) (hE:ElemTy P t e sz)
    (hs:ev F s=some (.o b 0 k cap)) (hH:H[b]?=some (.arr e sz cap rows)) (hn:k=rows.length) (hx:ev F x=some v) (hsrc:Src H sz v news) (hj:news.length=j) (hle:k+j≤1073741824)
    (hF2:∀g c2,killF g [b] F=F2 g c2) (hH2:∀g c2,(H.map (killO g [b])).set b (.arr e sz c2 (rows++news))=H2 g c2) (hpin:(∃q,E.H0.length=q∧Nat.ble q b=true)∨E.pin=false:=by first|exact Or.inl ⟨_,by assumption,rfl⟩|exact Or.inr (by assumption)) :
    Ef P N E o F H fun F' H'=>∃g c2,k+j≤c2∧F'=(d,.o b 0 (k+j) c2) :: F2 g c2∧H'=H2 g c2:=by
 subst hj
 have:=zQ17 (N:=N) (E:=E) ho hd hN hE hs hH hn hx hsrc hle hpin
 intro S ρ a w hR
 exact zZ (fun _ _ ⟨S',ρ',F',H',⟨g,c2,h1,h2,h3⟩,h4⟩=>⟨S',ρ',F',H',⟨g,c2,h1,by rw[h2,hF2],by rw[h3,hH2]⟩,h4⟩) (this S ρ a w hR)
theorem zS8 {fn:FuncId} {caps:Array Operand} {vs:List AV} (ho:o.op = .makeFunc (.func fn) #[] caps) (hx:evL F caps.toList=some vs):Rd P N E o F H (.f (.func fn) vs):=fun S ρ a w hR=>by
 obtain⟨h1,h2⟩:=zV4 hR hx
 refine⟨?_,.f h2⟩
 have:caps.map a.eval=(vs.map (AV.den ρ H)).toArray:=by
  apply Array.toList_inj.1
  rw[Array.toList_map,h1]
 simp[execOp,ho,Instr.makeFunc,AV.den,fnV,AV.denL_eq,this]
theorem zE15 {b c:Bool} (ho:o.op = .binOp .eql t x y yt) (hx:ev F x=some (.c (.s (.bool b)))) (hy:ev F y=some (.c (.s (.bool c)))) (ht:P.underlying t=some .bool):Rd P N E o F H (.c (.s (.bool (b == c)))):=
 zD1 ho hx hy (fun _ _=>rfl) (fun _ _=>rfl) fun w=>by
  simp[eqGuard,binOp,CV.den,Op.equal,Op.maxDepth,run_equalIn_bool' w _ t b c ht]
theorem zA15 {b c:Bool} (ho:o.op = .binOp .neq t x y yt) (hx:ev F x=some (.c (.s (.bool b)))) (hy:ev F y=some (.c (.s (.bool c)))) (ht:P.underlying t=some .bool):Rd P N E o F H (.c (.s (.bool (!(b == c))))):=
 zD1 ho hx hy (fun _ _=>rfl) (fun _ _=>rfl) fun w=>by
  simp[eqGuard,binOp,CV.den,Op.equal,Op.maxDepth,run_equalIn_bool' w _ t b c ht]
theorem zp17 {e:TypeId} {sz b k c j:Nat} (ho:o.op = .call { callee:=.builtin .cap,args:=#[x],argTypes:=#[t] }) (ht:elemSz P t=some (e,sz)) (hx:ev F x=some (.o b k j c)):Rd P N E o F H (.c (.s (.int .i64 c))):=fun S ρ a w hR=>by
 obtain⟨h1,h2⟩:=hR.ev hx
 refine⟨?_,.c (.s _)⟩
 have hu':(underlying t).run P w = .ok (.slice e) w:=by unfold underlying;simp[(zw ht).1]
 simp[execOp,ho,resolve,invoke,builtin,h1,AV.den,CV.den,Builtin.cap_,hu',goInt]
theorem zQ8 {ts:Array TypeId} {x y z:Operand} {kd:IntKind} {m n k:Int} (ho:o.op = .call { callee:=.builtin .min,args:=#[x,y,z],argTypes:=ts }) (hx:ev F x=some (.c (.s (.int kd m)))) (hy:ev F y=some (.c (.s (.int kd n)))) (hz:ev F z=some (.c (.s (.int kd k)))):Rd P N E o F H (.c (.s (.int kd (min (min m n) k)))):=fun S ρ a w hR=>by
 have h1:=(hR.ev hx).1
 have h2:=(hR.ev hy).1
 have h3:=(hR.ev hz).1
 simp only[AV.den,CV.den] at h1 h2 h3
 refine⟨?_,.c (.s _)⟩
 have e1:min m n=if n < m then n else m:=by split <;> omega
 have e2:min (min m n) k=if k < min m n then k else min m n:=by split <;> omega
 simp only[execOp,ho,resolve,invoke,builtin,Sem.run_bind,Sem.run_pure,Result.andThen_ok,List.map_toArray,List.map_cons,List.map_nil,h1,h2,h3,AV.den,CV.den,Builtin.min_,List.foldlM_cons,List.foldlM_nil,Builtin.min2]
 rw[e2,e1]
theorem zP8 {ts:Array TypeId} {x y z u:Operand} {kd:IntKind} {m n k j:Int} (ho:o.op = .call { callee:=.builtin .min,args:=#[x,y,z,u],argTypes:=ts }) (hx:ev F x=some (.c (.s (.int kd m)))) (hy:ev F y=some (.c (.s (.int kd n)))) (hz:ev F z=some (.c (.s (.int kd k)))) (hu:ev F u=some (.c (.s (.int kd j)))) :
    Rd P N E o F H (.c (.s (.int kd (min (min (min m n) k) j)))):=fun S ρ a w hR=>by
 have h1:=(hR.ev hx).1
 have h2:=(hR.ev hy).1
 have h3:=(hR.ev hz).1
 have h4:=(hR.ev hu).1
 simp only[AV.den,CV.den] at h1 h2 h3 h4
 refine⟨?_,.c (.s _)⟩
 have e1:min m n=if n < m then n else m:=by split <;> omega
 have e2:min (min m n) k=if k < min m n then k else min m n:=by split <;> omega
 have e3:min (min (min m n) k) j=if j < min (min m n) k then j else min (min m n) k:=by split <;> omega
 simp only[execOp,ho,resolve,invoke,builtin,Sem.run_bind,Sem.run_pure,Result.andThen_ok,List.map_toArray,List.map_cons,List.map_nil,h1,h2,h3,h4,AV.den,CV.den,Builtin.min_,List.foldlM_cons,List.foldlM_nil,Builtin.min2]
 rw[e3,e2,e1]
theorem zR8 {ts:Array TypeId} {x y z:Operand} {kd:IntKind} {m n k:Int} (ho:o.op = .call { callee:=.builtin .max,args:=#[x,y,z],argTypes:=ts }) (hx:ev F x=some (.c (.s (.int kd m)))) (hy:ev F y=some (.c (.s (.int kd n)))) (hz:ev F z=some (.c (.s (.int kd k)))):Rd P N E o F H (.c (.s (.int kd (max (max m n) k)))):=fun S ρ a w hR=>by
 have h1:=(hR.ev hx).1
 have h2:=(hR.ev hy).1
 have h3:=(hR.ev hz).1
 simp only[AV.den,CV.den] at h1 h2 h3
 refine⟨?_,.c (.s _)⟩
 have e1:max m n=if m < n then n else m:=by split <;> omega
 have e2:max (max m n) k=if max m n < k then k else max m n:=by split <;> omega
 simp only[execOp,ho,resolve,invoke,builtin,Sem.run_bind,Sem.run_pure,Result.andThen_ok,List.map_toArray,List.map_cons,List.map_nil,h1,h2,h3,AV.den,CV.den,Builtin.max_,List.foldlM_cons,List.foldlM_nil,Builtin.max2]
 rw[e2,e1]
def bplaces (P:Program) (t:TypeId):Option (List (Nat × Nat)):=
 match P.underlying t with
 | some (.struct fs)=>fs.toList.mapM fun f=>(P.info? f.type).map fun i=>(f.offset,i.size)
 | _=>none
inductive BParts (F:Fm) (pl:List (Nat × Nat)):List (Nat × Operand)→List AV→List AV→Prop where
 | nil {l:List AV}:BParts F pl [] l l
 | cons {i off k:Nat} {x:Operand} {v:AV} {ps:List (Nat × Operand)} {l l1 l2:List AV} (h:ev F x=some v) (hp:pl[i]?=some (off,k)) (hk:(cellsOf v).length=k) (hl:off+k≤l.length) (h1:(cellsOf v).all AV.one=true) (he:putL l off (cellsOf v)=l1) (ht:BParts F pl ps l1 l2):BParts F pl ((i,x) :: ps) l l2
theorem zI8 {l:List AV} {ρ:List (Option Nat)} {off:Nat} {xs:List AV} (h:off+xs.length≤l.length):setAll (l.map (AV.den ρ H)).toArray off (xs.map (AV.den ρ H))=((putL l off xs).map (AV.den ρ H)).toArray:=by
 refine Array.ext_getElem? fun k=>?_
 rw[zd1 _ _ _ _ (by simpa using h)]
 simp only[List.length_map,List.getElem?_map,List.getElem?_toArray]
 rw[zr2 h]
 split <;> rfl
theorem zr9 {S:Nat→Prop} {ρ:List (Option Nat)} {a:Act} {w:World} {pl:List (Nat × Nat)} {ps:List (Nat × Operand)} {l l':List AV} (hR:R N E S ρ F H a w) (h:BParts F pl ps l l') (hw:∀x∈l,WF w S ρ H x) :
    Instr.fill (pl.toArray[·]?) (l.map (AV.den ρ H)).toArray (ps.map fun x=>(x.1,a.eval x.2))=some (l'.map (AV.den ρ H)).toArray∧∀x∈l',WF w S ρ H x:=by
 induction h with
 | nil=>exact⟨rfl,hw⟩
 | @cons i off k x v ps l l1 l2 h hp hk hl h1 he ht ih=>
  subst he
  obtain⟨g1,g2⟩:=hR.ev h
  obtain⟨e1,e2⟩:=zm1 g2 h1
  obtain⟨q1,q2⟩:=ih (fun x hx=>by
   rcases zk4 hx with hx|hx
   ·exact(e2 x hx).1
   ·exact hw x hx)
  refine⟨?_,q2⟩
  simp only[List.map_cons,Instr.fill,List.getElem?_toArray,hp,g1,e1,List.size_toArray,List.length_map,hk,ne_eq,not_true_eq_false,decide_false,Bool.false_or]
  rw[if_neg (by simp;omega),zA4]
  simp only
  rw[zI8 (by omega)]
  simp only[List.getElem?_toArray] at q1
  exact q1
theorem zC5 {fs:List Field} {pl:List (Nat × Nat)} {w:World} (h:fs.mapM (fun f=>(P.info? f.type).map fun i=>(f.offset,i.size))=some pl):(fs.mapM (m:=Sem) fun f=>do pure (f.offset,←sizeOf f.type)).run P w = .ok pl w:=by
 induction fs generalizing pl with
 | nil=>simp at h;subst h;rfl
 | cons f fs ih=>
  rw[List.mapM_cons] at h
  cases hi:P.info? f.type with
  | none=>rw[hi] at h;cases h
  | some i=>
   rw[hi] at h
   cases hr:fs.mapM (fun f=>(P.info? f.type).map fun i=>(f.offset,i.size)) with
   | none=>simp[hr] at h
   | some pl'=>
    simp[hr] at h
    subst h
    have hz:(sizeOf f.type).run P w = .ok i.size w:=by simp[sizeOf,typeInfo,hi]
    rw[List.mapM_cons]
    simp only[Sem.run_bind,hz,Result.andThen_ok,Sem.run_pure,ih hr]
theorem zL13 {ps:Array (Nat × Operand)} {z:Value} {vs:List Value} {pl:List (Nat × Nat)} {l':List AV} (ho:o.op = .build t ps) (hz:(P.info? t).bind (·.zero)=some z) (hc:z.cells=vs.toArray) (hpl:bplaces P t=some pl)
    (hb:BParts F pl ps.toList (vs.map fun v=>.c (cvOf v)) l'):Rd P N E o F H (.a l'):=fun S ρ a w hR=>by
 obtain⟨h1,h2⟩:=zr9 hR hb (fun x hx=>by obtain⟨v,_,rfl⟩:=List.mem_map.1 hx;exact .c (zM2 _ _ _))
 refine⟨?_,.a h2⟩
 unfold bplaces at hpl
 cases hu:P.underlying t with
 | none=>rw[hu] at hpl;cases hpl
 | some dsc=>
  rw[hu] at hpl
  cases dsc <;> simp only[reduceCtorEq] at hpl
  rename_i fs
  have hu':(underlying t).run P w = .ok (.struct fs) w:=by unfold underlying;simp[hu]
  have hzr:(zeroValue t).run P w = .ok z w:=by
   unfold zeroValue typeInfo
   cases hi:P.info? t with
   | none=>rw[hi] at hz;cases hz
   | some i=>rw[hi] at hz;simp only[Option.bind_some] at hz;simp[hi,hz]
  have hpm:(ps.map fun x=>(x.1,a.eval x.2)).toList=ps.toList.map fun x=>(x.1,a.eval x.2):=by simp
  have hvs:z.cells=((vs.map fun v=>AV.c (cvOf v)).map (AV.den ρ H)).toArray:=by rw[hc];simp[Function.comp_def,AV.den,zO1]
  have hmp:(fs.mapM fun f=>do pure (f.offset,←sizeOf f.type):Sem (Array (Nat × Nat))).run P w = .ok pl.toArray w:=by
   rw[Array.mapM_eq_mapM_toList,Sem.run_map,zC5 hpl];rfl
  simp only[execOp,ho,Instr.build,Sem.run_bind,hzr,Result.andThen_ok,hu']
  rw[hmp]
  simp only[Result.andThen_ok,hpm,hvs,h1,Sem.run_pure,AV.den,AV.denL_eq]
theorem zE1 {c:Code} {K:Fm→List OB→Prop} (J:Fm→List OB→Prop) (h:AW P N E c F H (ASeq (fun F' H'=>Wk N E F' H' J) Q)) (hJ:∀F H,J F H→K F H) (hK:∀F H,Wk N E F H K→K F H):AW P N E c F H (ASeq K Q):=
 zC16 h fun e F H hh=>by
  cases e
  case normal=>
   refine hK F H (fun S ρ a w hR=>?_)
   obtain⟨S',ρ',F',H',h1,h2⟩:=hh S ρ a w hR
   exact⟨S',ρ',F',H',hJ _ _ h1,h2⟩
  all_goals exact hh
theorem zV2 {c:Code}:∀F H,Wk N E F H (fun F H=>AW P N E c F H Q)→AW P N E c F H Q:=fun _ _ h=>zQ4 h fun _ _ h=>h
theorem zA1 {fn:Func} {nl q:Nat} {Qr:AV→List OB→Prop} {z:AV} {v:CV} (m:List (Option Nat)) (H':List OB) (hr:fn.results=#[.tmp q]) (h:F.lookup q=some z) (hz:z = .c v) (hm:(m.filterMap id).Nodup) (hl:∀i,i < nl→m[i]?=some (some i)) (hH:∀g,CvH g m H true m H') (hq:Qr (.c v) H'):ARet P fn nl Qr .ret F H:=by
 subst hz
 exact zA m (fun _=>.c v) (fun _=>H') (by rw[hr];exact .tmp h .nil) hm hl (fun _=>.c rfl) hH (fun _=>hq)
theorem zF1 {fn:Func} {nl q r:Nat} {Qr:AV→List OB→Prop} {z z2:AV} {v v2:CV} (m:List (Option Nat)) (H':List OB) (hr:fn.results=#[.tmp q,.tmp r]) (h:F.lookup q=some z) (hz:z = .c v) (h2:F.lookup r=some z2) (hz2:z2 = .c v2) (hm:(m.filterMap id).Nodup) (hl:∀i,i < nl→m[i]?=some (some i)) (hH:∀g,CvH g m H true m H') (hq:Qr (.t [.c v,.c v2]) H'):ARet P fn nl Qr .ret F H:=by
 subst hz;subst hz2
 exact zA m (fun _=>.t [.c v,.c v2]) (fun _=>H') (by rw[hr];exact .tmp h (.tmp h2 .nil)) hm hl (fun _=>.tL (.cons (.c rfl) (.cons (.c rfl) .nil))) hH (fun _=>hq)
theorem zA6 {fn:Func} {nl q k:Nat} {ty:TypeId} {Qr:AV→List OB→Prop} {v:AV} {cs cs' cs'':List AV} (m:List (Option Nat)) (H':List OB) (hr:fn.results=#[.cell q ty]) (hk:ldk P ty=some (some k)) (h:F.lookup q=some v) (hc:Cells H v cs) (hn:k≤cs.length) (he:cs.take k=cs') (hm:(m.filterMap id).Nodup) (hl:∀i,i < nl→m[i]?=some (some i))
    (hcv:∀g,CvL g m H true cs' cs'') (hH:∀g,CvH g m H true m H') (hq:Qr (.a cs'') H'):ARet P fn nl Qr .ret F H:=
 zA (us:=[.a cs']) m (fun _=>.a cs'') (fun _=>H') (by rw[hr];exact .cella h hk hc hn he .nil) hm hl (fun g=>.aL (hcv g)) hH (fun _=>hq)
theorem zN4 {fn:Func} {nl q b k k' c b':Nat} {Qr:AV→List OB→Prop} {z:AV} (m:List (Option Nat)) (H':(AV→Value)→List OB) (hr:fn.results=#[.tmp q]) (h:F.lookup q=some z) (hz:z = .o b 0 k c) (hk:k=k') (hb:m[b']?=some (some b)) (hm:(m.filterMap id).Nodup) (hl:∀i,i < nl→m[i]?=some (some i)) (hH:∀g,CvH g m H true m (H' g)) (hq:∀g,Qr (.o b' 0 k' c) (H' g)):ARet P fn nl Qr .ret F H:=by
 subst hz
 exact zA m (fun _=>.o b' 0 k' c) H' (by rw[hr];exact .tmp h .nil) hm hl (fun _=>.o hb hk) hH hq
theorem zO7 {g:AV→Value} {m:List Nat} {Hr:List OB} {h:Nat}:∀(b:Nat) (l:List OB),(∀i∈m,i < b)→updH g [] m Hr h b l=l
 | _,[],_=>rfl
 | b,x :: l,hm=>by
  have:posOf b m=none:=by
   cases hp:posOf b m with
   | none=>rfl
   | some i=>have:=hm b (List.mem_of_getElem? (zK1 hp));omega
  rw[updH,this,zO7 (b+1) l (fun i hi=>by have:=hm i hi;omega)];simp[zl8]
theorem zp {f:FuncId} {fx:Operand} {args:Array Operand} {tys:Array TypeId} {d:Nat} {vs all:List AV} {us:(AV→Value)→List AV} {l0:List AV} {l0':(AV→Value)→List AV} {T:List OB} {Qc:(AV→Value)→AV→List OB→Prop} (fz:Bool)
    (hc:∀g,ACalls P f (us g) [.box (l0' g)] (Qc g)) (ho:o.op = .call { callee:=.value fx,args:=args,argTypes:=tys }) (hfx:Callee' F fx f vs all) (hd:o.dst=some d) (hN:d < N) (hf:okFn P f=true) (hargs:evL F args.toList=some vs) (hH0:H = .box l0 :: T)
    (hcv:∀g,CvL g [some 0] H fz all (us g)) (hl0:∀g,CvL g [some 0] H fz l0 (l0' g)) (hfl:fz=true→∀g u Hr,Qc g u Hr→FlatA (Known F H) u∧∀o∈Hr,FlatO (Known F H) o) :
    Ef P N E o F H fun F' H'=>∃g u o0 Hr,Qc g u (o0 :: Hr)∧F'=(d,u.emb [0] H.length) :: F∧H'=o0.emb [0] H.length :: (T++Hr.map (OB.emb [0] H.length)):=fun S ρ a w hR=>by
 have hlent:lentArr H [0] = []:=by rw[hH0];rfl
 refine zZ (fun a' w' hh=>?_) (zO [0] (fun g=>[.box (l0' g)]) fz hc ho hfx hd hN hf hargs (fun g=>hcv g) (by simp) (fun g=>.box (by rw[hH0];rfl) (hl0 g) .nil) hfl (.inl ⟨_,rfl,by rw[hlent];rfl⟩) S ρ a w hR)
 obtain⟨S',ρ',F',H',⟨g,u,Hr,h0,h1,h2,h3⟩,h4⟩:=hh
 rw[hlent,zF] at h2
 rw[hlent] at h3
 have hne:Hr≠[]:=by
  intro he
  rw[he] at h0;simp at h0
 obtain⟨o0,Hr',rfl⟩:=List.exists_cons_of_ne_nil hne
 refine⟨S',ρ',F',H',⟨g,u,o0,Hr',h1,h2, ?_⟩,h4⟩
 rw[h3,hH0]
 simp only[updH,posOf,beq_self_eq_true,if_true,List.getD_cons_zero,List.length_cons,List.length_nil,List.drop_succ_cons,List.drop_zero,List.cons_append]
 rw[zO7 _ _ (by simp)]
end
end
end Go.Proofs.YtophoepbedlhjaaGreatDoor
