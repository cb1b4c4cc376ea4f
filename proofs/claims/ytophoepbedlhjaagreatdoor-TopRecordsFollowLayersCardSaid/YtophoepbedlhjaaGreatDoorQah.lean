/- The logic over values: a function's contract, entered and left. -/
import Derived.Test.YtophoepbedlhjaaGreatDoorQag
set_option linter.unusedSimpArgs false
set_option linter.unusedVariables false
namespace Go.Proofs.YtophoepbedlhjaaGreatDoor
open Go Go.RowKit
def ACallsX (pin:Bool) (P:Program) (f:FuncId) (args:List AV) (H:List OB) (Q:AV→List OB→Prop):Prop:=
 ∀S ρ w,RH w S ρ H→(∀x∈args,WF w S ρ H x)→Calls P f (args.map (AV.den ρ H)).toArray w fun e w'=>∃u H' ρ' S',e = .returned (u.den ρ' H')∧Q u H'∧WF w' S' ρ' H' u∧RH w' S' ρ' H' ∧
  Stp w w' (fun B=>(∃i,atB ρ i=some B)∨∃i k,inP H i k B)∧(∀b,S' b→S b∨(w.heap.size≤b∨∃i k,inP H i k b))∧(∀i B,atB ρ' i=some B→(w.heap.size≤B∨∃i k,inP H i k B)∨(i < H.length∧atB ρ i=some B)) ∧
  (∀i k B,inP H' i k B→w.heap.size≤B∨∃i k,inP H i k B) ∧
  (∀i,i < H.length→i < H'.length∧∀o,H[i]?=some o→o.shp≠0→atB ρ' i=atB ρ i∧∃o',H'[i]?=some o'∧o'.shp=o.shp) ∧
  (pin=true→∀i,i < H.length→atB ρ' i=atB ρ i∧szAt H' i=szAt H i∧capAt H' i=capAt H i)
abbrev ACalls (P:Program) (f:FuncId) (args:List AV) (H:List OB) (Q:AV→List OB→Prop):Prop:=ACallsX false P f args H Q
theorem ACallsX.mono {pin:Bool} {P:Program} {f:FuncId} {args:List AV} {H:List OB} {Q Q':AV→List OB→Prop} (h:ACallsX pin P f args H Q) (hq:∀u H,Q u H→Q' u H):ACallsX pin P f args H Q':=fun S ρ w h1 h2=>
 (h S ρ w h1 h2).mono fun _ _ ⟨u,H',ρ',S',h3,h4,h5⟩=>⟨u,H',ρ',S',h3,hq _ _ h4,h5⟩
def enumF:Nat→List AV→Fm
 | _,[]=>[]
 | i,x :: l=>(i,x) :: enumF (i+1) l
theorem zt5:∀(l:List AV) (i k:Nat) (x:AV),(enumF i l).lookup k=some x→i≤k∧l[k - i]?=some x
 | [],_,_,_,h=>by cases h
 | y :: l,i,k,x,h=>by
  rw[enumF,List.lookup_cons] at h
  split at h
  ·rename_i he
   have:k=i:=by simpa using he
   subst this
   exact⟨Nat.le_refl _,by simpa using h⟩
  ·obtain⟨h1,h2⟩:=zt5 l (i+1) k x h
   refine⟨by omega, ?_⟩
   rw[show k - i=(k - (i+1))+1 from by omega,List.getElem?_cons_succ];exact h2
inductive ResL (P:Program) (F:Fm) (H:List OB):List ResultVar→List AV→Prop where
 | nil:ResL P F H [] []
 | tmp {t:Nat} {x:AV} {rs:List ResultVar} {us:List AV} (h:F.lookup t=some x) (ht:ResL P F H rs us):ResL P F H (.tmp t :: rs) (x :: us)
 | cell {t:Nat} {ty:TypeId} {v y:AV} {cs:List AV} {rs:List ResultVar} {us:List AV} (h:F.lookup t=some v) (hk:ldk P ty=some none) (hc:Cells H v (y :: cs)) (ht:ResL P F H rs us):ResL P F H (.cell t ty :: rs) (y :: us)
 | cella {t n:Nat} {ty:TypeId} {v:AV} {cs cs':List AV} {rs:List ResultVar} {us:List AV} (h:F.lookup t=some v) (hk:ldk P ty=some (some n)) (hc:Cells H v cs) (hn:n≤cs.length) (he:cs.take n=cs') (ht:ResL P F H rs us):ResL P F H (.cell t ty :: rs) (.a cs' :: us)
def resOf:List AV→AV
 | [x]=>x
 | us=>.t us
section
variable {P:Program} {N:Nat} {E:Env} {F:Fm} {H:List OB} {S:Nat→Prop} {ρ:List (Option Nat)} {a:Act} {w:World}
theorem res_run {rs:List ResultVar} {us:List AV} (hR:R N E S ρ F H a w) (h:ResL P F H rs us):(rs.mapM (m:=Sem) fun
    | .tmp t=>pure (a.tmps.getD t undef)
    | .cell c t=>do loadVar t (←asAddr (a.tmps.getD c undef))).run P w = .ok (us.map (AV.den ρ H)) w∧∀u∈us,WF w S ρ H u:=by
 induction h with
 | nil=>exact⟨rfl,fun _ h=>by cases h⟩
 | @tmp t x rs us h ht ih=>
  obtain⟨h1,h2⟩:=hR.fr t x h
  refine⟨?_,fun u hu=>?_⟩
  ·rw[List.mapM_cons]
   have:a.tmps.getD t undef=x.den ρ H:=by rw[Array.getD_eq_getD_getElem?,h1];rfl
   simp only[this,pure_bind,Sem.run_bind,ih.1,Result.andThen_ok,Sem.run_pure,List.map_cons]
  ·rcases List.mem_cons.1 hu with rfl|hu
   ·exact h2
   ·exact ih.2 u hu
 | @cell t ty v y cs rs us h hk hc ht ih=>
  obtain⟨h1,h2⟩:=hR.fr t v h
  obtain⟨B,off,hd,hcell⟩:=hR.cells h2 hc
  obtain⟨h3,h4⟩:=hcell 0 y rfl
  rw[Nat.add_zero] at h3
  refine⟨?_,fun u hu=>?_⟩
  ·have:a.tmps.getD t undef=v.den ρ H:=by rw[Array.getD_eq_getD_getElem?,h1];rfl
   have hx:(do loadVar ty (←asAddr (a.tmps.getD t undef)):Sem Value).run P w = .ok (y.den ρ H) w:=by
    rw[this,hd]
    simp only[asAddr,loadVar,Sem.run_bind,Sem.run_pure,Result.andThen_ok,(zQ4 (w:=w) hk).1,Bool.false_eq_true,if_false,run_load,h3]
   rw[List.mapM_cons,Sem.run_bind,hx,Result.andThen_ok,Sem.run_bind,ih.1];rfl
  ·rcases List.mem_cons.1 hu with rfl|hu
   ·exact h4
   ·exact ih.2 u hu
 | @cella t n ty v cs cs' rs us h hk hc hn he ht ih=>
  subst he
  obtain⟨h1,h2⟩:=hR.fr t v h
  obtain⟨B,off,hd,hcell⟩:=hR.cells h2 hc
  have hl:=zb1 (P:=P) (w:=w) (B:=B) (off:=off) (vs:=cs.map (AV.den ρ H)) n 0 #[] (fun k hk=>by
   have hkl:k < cs.length:=by omega
   rw[Nat.zero_add,(hcell k cs[k] (List.getElem?_eq_getElem hkl)).1]
   simp[hkl]) (by simpa using hn)
  refine⟨?_,fun u hu=>?_⟩
  ·have:a.tmps.getD t undef=v.den ρ H:=by rw[Array.getD_eq_getD_getElem?,h1];rfl
   have hx:(do loadVar ty (←asAddr (a.tmps.getD t undef)):Sem Value).run P w = .ok ((AV.a (cs.take n)).den ρ H) w:=by
    rw[this,hd]
    simp only[asAddr,loadVar,loadCells,Sem.run_bind,Sem.run_pure,Result.andThen_ok,(zV1 (w:=w) hk).1,(zV1 (w:=w) hk).2,if_true,hl,AV.den,AV.denL_eq,List.drop_zero,List.map_take]
    simp
   rw[List.mapM_cons,Sem.run_bind,hx,Result.andThen_ok,Sem.run_bind,ih.1];rfl
  ·rcases List.mem_cons.1 hu with rfl|hu
   ·refine .a fun x hx=>?_
    obtain⟨i,hi⟩:=List.getElem?_of_mem (List.mem_of_mem_take hx)
    exact(hcell i x hi).2
   ·exact ih.2 u hu
theorem res_run' {fn:Func} {us:List AV} (hR:R N E S ρ F H a w) (h:ResL P F H fn.results.toList us):(results fn a.tmps).run P w = .ok ((resOf us).den ρ H) w∧WF w S ρ H (resOf us):=by
 obtain⟨h1,h2⟩:=res_run hR h
 refine⟨?_, ?_⟩
 ·unfold results
  rw[Array.mapM_eq_mapM_toList]
  simp only[Sem.run_bind,Sem.run_map]
  erw [h1]
  simp only[Result.andThen_ok,Sem.run_pure]
  congr 1
  rcases us with _|⟨x,_|⟨y,us⟩⟩
  ·rfl
  ·rfl
  ·simp[resOf,AV.den,AV.denL_eq]
 ·rcases us with _|⟨x,_|⟨y,us⟩⟩
  ·exact .t h2
  ·exact h2 x (by simp)
  ·exact .t h2
def ARet (P:Program) (fn:Func) (nl:Nat) (Q:AV→List OB→Prop) (x:Exit) (F:Fm) (H:List OB):Prop:=
 (x = .ret∨x = .normal)∧∃us,ResL P F H fn.results.toList us∧∃(m:List (Option Nat)) (u':(AV→Value)→AV) (H':(AV→Value)→List OB),(m.filterMap id).Nodup∧(∀i,i < nl→m[i]?=some (some i))∧(∀g,Cvt g m H true (resOf us) (u' g))∧(∀g,CvH g m H true m (H' g))∧∀g,Q (u' g) (H' g)
def postE (E:Env) (Q:AV→List OB→Prop) (e:Ending) (w':World):Prop:=∃u H'' ρ'' S'',e = .returned (u.den ρ'' H'')∧Q u H''∧WF w' S'' ρ'' H'' u∧RH w' S'' ρ'' H'' ∧
    Stp E.w0 w' (fun B=>(∃i,atB E.r0 i=some B)∨∃i k,inP E.H0 i k B)∧(∀b,S'' b→E.S0 b∨(E.w0.heap.size≤b∨∃i k,inP E.H0 i k b))∧(∀i B,atB ρ'' i=some B→(E.w0.heap.size≤B∨∃i k,inP E.H0 i k B)∨(i < E.H0.length∧atB E.r0 i=some B)) ∧
    (∀i k B,inP H'' i k B→E.w0.heap.size≤B∨∃i k,inP E.H0 i k B) ∧
    (∀i,i < E.H0.length→i < H''.length∧∀o,E.H0[i]?=some o→o.shp≠0→atB ρ'' i=atB E.r0 i∧∃o',H''[i]?=some o'∧o'.shp=o.shp) ∧
    (E.pin=true→∀i,i < E.H0.length→atB ρ'' i=atB E.r0 i∧szAt H'' i=szAt E.H0 i∧capAt H'' i=capAt E.H0 i)
theorem zz10 {fn:Func} {x:Exit} {Q:AV→List OB→Prop} {S':Nat→Prop} {ρ':List (Option Nat)} {F':Fm} {H':List OB} {a':Act} {w':World} (hh:ARet P fn E.H0.length Q x F' H') (hR':R N E S' ρ' F' H' a' w'):∃v,(results fn a'.tmps).run P w' = .ok v w'∧postE E Q (.returned v) w':=by
 obtain⟨hx,us,hres,m,u',Ho,hm,hml,hu,hH,hq⟩:=hh
 obtain⟨h1,h2⟩:=res_run' hR' hres
 have hg:=hH (AV.den ρ' H')
 obtain⟨h3,h4⟩:=(hu (AV.den ρ' H')).sound hR'.hp rfl hg h2
 refine⟨_,h1,u' (AV.den ρ' H'),Ho (AV.den ρ' H'),reB ρ' m,newS true m ρ' H' S',by rw[h3],hq _,h4,hR'.hp.re rfl hm hg,hR'.st,fun b hb=>?_,fun i B hi=>?_,fun i k B hi=>by obtain⟨b,_,h1⟩:=hg.inP hi;exact hR'.pw b k B h1,fun i hi=>?_,fun hpp i hi=>?_⟩
 ·rcases hb with hb|⟨_,b2,g3,g5⟩
  ·exact hR'.nS b hb
  ·rcases hR'.nw b2 b g3 with g6|⟨g6,_⟩
   ·exact .inr g6
   ·have:m.contains (some b2)=true:=by simpa using List.mem_of_getElem? (hml b2 g6)
    rw[this] at g5;cases g5
 ·rw[zK] at hi
  cases g1:m[i]? with
  | none=>rw[g1] at hi;cases hi
  | some y=>
   cases y with
   | none=>rw[g1] at hi;cases hi
   | some b=>
    rw[g1] at hi
    rcases hR'.nw b B hi with g2|⟨g2,g3⟩
    ·exact .inl g2
    ·have:=zc1 hm i b b g1 (hml b g2)
     subst this
     exact .inr ⟨g2,g3⟩
 ·obtain⟨g1,g2⟩:=hR'.ln i hi
  have hmi:=hml i hi
  have hlt:=(hg.at_ hmi).1
  refine⟨hlt,fun o ho hs=>?_⟩
  obtain⟨g3,o',g4,g5⟩:=g2 o ho hs
  obtain⟨o2,g6,g7⟩:=hg.shp hmi g4 (by rw[g5];exact hs)
  exact⟨by rw[zK,hmi];exact g3,o2,g6,g7.trans g5⟩
 ·have hmi:=hml i hi
  obtain⟨g1,g2,g3⟩:=hR'.pn hpp i hi
  obtain⟨_,g5,g6⟩:=hg.at_ hmi
  exact⟨by rw[zK,hmi];exact g1,by rw[g5];exact g2,by rw[g6];exact g3⟩
theorem ze1 (pin:Bool) {f:FuncId} {fn:Func} {c:Code} {args:List AV} {Q:AV→List OB→Prop} (hf:P.funcs[f]?=some fn) (hb:fn.body=some c) (hN:fn.ntmps=N) (hl:args.length≤N) (h:∀E:Env,E.H0.length=H.length→E.pin=pin→AW P N E c (enumF 0 args) H (ARet P fn H.length Q)):ACallsX pin P f args H Q:=fun S ρ w hp hw=>by
 refine calls_of_wp hf hb ?_
 let E:Env:=⟨w,S,ρ,H,pin,none,[]⟩
 have hR:R N E S ρ (enumF 0 args) H { tmps:=(args.map (AV.den ρ H)).toArray++Array.replicate (fn.ntmps - (args.map (AV.den ρ H)).toArray.size) undef,defers:=[] } w:=by
  refine⟨rfl,by simp[hN];omega,fun i x hi=>?_,hp,Stp.refl _ _,fun i B hi=>.inr ⟨by rw[←hp.len];exact zJ4 hi,hi⟩,fun b hb=>.inl hb,fun i k B hi=>.inr ⟨i,k,hi⟩,fun i hi=>⟨hi,fun o ho _=>⟨rfl,o,ho,rfl⟩⟩,fun _ i hi=>⟨rfl,rfl,rfl⟩⟩
  obtain⟨_,h2⟩:=zt5 args 0 i x hi
  rw[Nat.sub_zero] at h2
  have hlt:i < args.length:=(List.getElem?_eq_some_iff.1 h2).1
  refine⟨?_,hw x (List.mem_of_getElem? h2)⟩
  rw[Array.getElem?_append_left (by simpa using hlt)]
  simp[h2]
 refine wp_mono (wpIn_wide.1 (h E rfl rfl S ρ _ w hR 0)) fun e a' w' hh=>?_
 obtain⟨S',ρ',F',H',hq,hR'⟩:=hh
 have hx:=hq.1
 have hfin:=zz10 (E:=E) hq hR'
 rcases hx with rfl|rfl
 ·exact⟨hR'.df,hfin⟩
 ·exact⟨hR'.df,hfin⟩
theorem zb {f:FuncId} {fn:Func} {c:Code} {args:List AV} {Q:AV→List OB→Prop} (hf:P.funcs[f]?=some fn) (hb:fn.body=some c) (hN:fn.ntmps=N) (hl:args.length≤N) (h:∀E:Env,E.H0.length=H.length→AW P N E c (enumF 0 args) H (ARet P fn H.length Q)):ACalls P f args H Q:=ze1 false hf hb hN hl fun E hE _=>h E hE
end
end Go.Proofs.YtophoepbedlhjaaGreatDoor
