/- Closed calls: code is sound; calls; a closed call's answer. Conditions: none. -/
import Derived.Test.YtophoepbedlhjaaGreatDoorQbu
set_option linter.unusedSimpArgs false
set_option linter.unusedVariables false
namespace Go.Proofs.YtophoepbedlhjaaGreatDoor
section
open Go Go.RowKit
set_option maxRecDepth 100000
def xargs (N:Nat):Nat→List XV→XFr→Option XFr
 | _,[],F=>some F
 | i,x :: l,F=>match xput N F i x with
  | some F'=>xargs N (i+1) l F'
  | none=>none
def xputs (N:Nat):List Nat→List XV→XFr→Option XFr
 | [],[],F=>some F
 | p :: ps,x :: xs,F=>(match xput N F p x with
  | some F'=>xputs N ps xs F'
  | none=>none)
 | _,_,_=>none
def xresL (P:Program) (F:XFr) (H:XHp):List ResultVar→Option (List XV)
 | []=>some []
 | .tmp t :: rs=>(match F.get t,xresL P F H rs with
  | some x,some l=>some (x :: l)
  | _,_=>none)
 | .cell c t :: rs=>(match F.get c,xresL P F H rs with
  | some (.p b j),some l=>(match xload P t H b j with
   | some x=>some (x :: l)
   | none=>none)
  | _,_=>none)
def xresOf:List XV→XV
 | [x]=>x
 | l=>.t l
def xenter (P:Program) (run:Nat→Code→XFr→XHp→Nat→Option (Exit × XSt)) (f:FuncId) (args:List XV) (H:XHp) (k:Nat):Option (XV × XHp × Nat):=match P.funcs[f]? with
 | none=>none
 | some fn=>match fn.body,xargs fn.ntmps 0 args .nil with
  | some c,some F=>(match run fn.ntmps c F H k with
   | some (e,F',H',k')=>(match e with
    | .normal=>(match xresL P F' H' fn.results.toList with
     | some l=>some (xresOf l,H',k')
     | none=>none)
    | .ret=>(match xresL P F' H' fn.results.toList with
     | some l=>some (xresOf l,H',k')
     | none=>none)
    | _=>none)
   | none=>none)
  | _,_=>none
def xround (N:Nat) (ps:List Nat) (assign body:XFr→XHp→Nat→Option (Exit × XSt)) (F:XFr) (args:List XV) (H:XHp) (k:Nat):Option (XHp × Nat):=match xputs N ps args F with
 | some F1=>(match assign F1 H k with
  | some (.normal,F2,H2,k2)=>(match body F2 H2 k2 with
   | some (.normal,_,H3,k3)=>some (H3,k3)
   | _=>none)
  | _=>none)
 | none=>none
def xcode (P:Program) (call:XCf):Nat→Nat→XYh→Bool→Code→XFr→XHp→Nat→Option (Exit × XSt)
 | 0,_,_,_,_,_,_,_=>none
 | n+1,N,yh,rd,c,F,H,k=>match c with
  | .skip=>some (.normal,F,H,k)
  | .region _ ops draw=>(match draw with
   | false=>(match xlist P N call yh ops.toList ops.toList F H k with
    | some s=>some (.normal,s)
    | none=>none)
   | true=>(match rd with
    | false=>(match xdraw P N call ops F H k with
     | some s=>some (.normal,s)
     | none=>none)
    | true=>none))
  | .seq x y=>(match xcode P call n N yh rd x F H k with
   | some (.normal,F',H',k')=>xcode P call n N yh rd y F' H' k'
   | r=>r)
  | .cond x t e=>(match xevp F x with
   | some (.bool true)=>xcode P call n N yh rd t F H k
   | some (.bool false)=>xcode P call n N yh rd e F H k
   | _=>none)
  | .block id b=>(match xcode P call n N yh rd b F H k with
   | some (.exit id',s)=>(match Nat.beq id' id with
    | true=>some (.normal,s)
    | false=>some (.exit id',s))
   | r=>r)
  | .loop b=>(match xmrec F H b with
   | some q=>bif xmchk P N call yh (xcode P call n N yh rd q.tail) n F H k q then xmend N F H k q else none
   | none=>(match xcode P call n N yh rd b F H k with
    | some (.normal,F',H',k')=>xcode P call n N yh rd (.loop b) F' H' k'
    | r=>r))
  | .exit id=>some (.exit id,F,H,k)
  | .ret=>some (.ret,F,H,k)
  | .label _=>some (.normal,F,H,k)
  | .rangeFunc g ps assign body=>(match rd,yh,xevn F g with
   | false,none,some (.f gf caps)=>bif okFn P gf then (match xnew H k .dead with
    | some H1=>(match xenter P (fun N' c F2 H2 k2=>xcode P call n N' (some (k,fun args H' k'=>xround N ps.toList (xcode P call n N none true assign) (xcode P call n N none true body) F args H' k')) false c F2 H2 k2) gf (.yl k :: caps) H1 (k+1) with
     | some (_,H2,k2)=>some (.normal,F,H2,k2)
     | none=>none)
    | none=>none) else none
   | _,_,_=>none)
  | _=>none
section
variable {P:Program} {N:Nat} {w0:XEnv} {ρ γ:Nat→Nat} {F F':XFr} {H H':XHp} {a:Act} {w:World} {o:Oper} {call:XCf}
theorem zD8:∀{l:List XV} {i:Nat} {F F':XFr},xargs N i l F=some F'→(∀j,j < l.length→i+j < N)∧∀k,F'.get k=if i≤k∧k < i+l.length then l[k - i]? else F.get k
 | [],i,F,F',h=>by
  simp only[xargs,Option.some.injEq] at h
  subst h
  exact⟨fun j hj=>(by simp at hj),fun k=>(by rw[if_neg (by simp)])⟩
 | x :: l,i,F,F',h=>by
  unfold xargs at h
  split at h
  ·rename_i F1 hF
   obtain⟨h1,h2⟩:=zR1 hF
   obtain⟨h3,h4⟩:=zD8 h
   refine⟨fun j hj=>?_,fun k=>?_⟩
   ·cases j with
    | zero=>exact h1
    | succ j=>have:=h3 j (by simpa using hj);omega
   ·rw[h4,h2]
    simp only[List.length_cons]
    by_cases hk:k=i
    ·subst hk
     rw[if_neg (by omega),if_pos rfl,if_pos (by omega)]
     simp
    ·by_cases hc:i+1≤k∧k < i+1+l.length
     ·rw[if_pos hc,if_pos (by omega),show k - i=(k - (i+1))+1 by omega]
      simp
     ·rw[if_neg hc,if_neg hk,if_neg (by omega)]
  ·cases h
theorem zV5 (hR:XR N w0 ρ γ F H a w):∀{rs:List ResultVar} {l:List XV},xresL P F H rs=some l→(rs.mapM (m:=Sem) fun
    | .tmp t=>pure (a.tmps.getD t undef)
    | .cell c t=>do loadVar t (←asAddr (a.tmps.getD c undef))).run P w = .ok (XV.denL ρ γ l) w∧XV.okL (H.has γ) l
 | [],l,h=>by cases h;exact⟨rfl,trivial⟩
 | .tmp t :: rs,l,h=>by
  unfold xresL at h
  split at h
  ·rename_i x l' hx hl
   injection h with h
   subst h
   obtain⟨h1,h2⟩:=hR.fr t x hx
   obtain⟨h3,h4⟩:=zV5 hR hl
   refine⟨?_,h2,h4⟩
   have hg:a.tmps.getD t undef=x.den ρ γ:=by rw[Array.getD_eq_getD_getElem?,h1];rfl
   rw[List.mapM_cons]
   simp only[Sem.run_bind,Sem.run_pure,Result.andThen_ok,hg,h3,XV.denL]
  ·cases h
 | .cell c t :: rs,l,h=>by
  unfold xresL at h
  split at h
  ·rename_i b j l' hx hl
   split at h
   ·rename_i x hld
    injection h with h
    subst h
    obtain⟨h1,h2⟩:=hR.fr c _ hx
    obtain⟨h3,h4⟩:=zV5 hR hl
    obtain⟨h5,h6⟩:=zz8 (P:=P) hR.hp hld
    refine⟨?_,h6,h4⟩
    have hg:a.tmps.getD c undef = .pointer (some ⟨ρ b,j,none⟩):=by rw[Array.getD_eq_getD_getElem?,h1];rfl
    simp only[Instr.loadAt,Instr.sureAddr,Sem.run_bind,Sem.run_pure,Result.andThen_ok] at h5
    have ha:(asAddr (a.tmps.getD c undef)).run P w = .ok ⟨ρ b,j,none⟩ w:=by rw[hg];rfl
    rw[List.mapM_cons]
    simp only[Sem.run_bind,Sem.run_pure,Result.andThen_ok,ha,h5,h3,XV.denL]
   ·cases h
  ·cases h
theorem xres_ok {fn:Func} {l:List XV} (hR:XR N w0 ρ γ F H a w) (h:xresL P F H fn.results.toList=some l):(results fn a.tmps).run P w = .ok ((xresOf l).den ρ γ) w∧(xresOf l).ok (H.has γ):=by
 obtain⟨h1,h2⟩:=zV5 hR h
 refine⟨?_, ?_⟩
 ·unfold results
  rw[Array.mapM_eq_mapM_toList]
  simp only[Sem.run_bind,Sem.run_map]
  erw [h1]
  rcases l with _|⟨x,_|⟨y,l⟩⟩
  ·rfl
  ·rfl
  ·simp[xresOf,XV.den,XV.denL]
 ·rcases l with _|⟨x,_|⟨y,l⟩⟩
  ·exact h2
  ·exact h2.1
  ·exact h2
theorem XH.turn {E E2:XEnv} {l:Nat} {ob:Obj} (h:XH E ρ γ H w) (hw:E2.w=E.w) (hl:∃x,E.X l=some x) (hb:E.w.heap.size≤l) (hap:∀B,E.X B=none→E2.X B=none) (hfx:∀B x,E2.X B=some x→(B=l∧x=ob)∨(B≠l∧E.X B=some x)):XH E2 ρ γ H (zp w l ob):=by
 obtain⟨x0,hx0⟩:=hl
 have hne:∀i o,H.get i=some o→o.live=true→ρ i≠l:=fun i o ho lo e=>by rw[←e,h.ap i o ho lo] at hx0;cases hx0
 have hlt:=h.st.lt hx0
 refine⟨h.nd,fun i o ho lo=>?_,fun i o ho lo=>hap _ (h.ap i o ho lo),fun i o ho=>?_,⟨⟨?_, ?_, ?_, ?_,fun i hi hn=>?_, ?_⟩,fun B x hB=>?_⟩⟩
 ·have:=h.hi i o ho lo
  rw[hw]
  exact⟨this.1,by simpa [zp] using this.2⟩
 ·obtain⟨h1,h2⟩:=h.bl i o ho
  refine⟨h1, ?_⟩
  cases hl:o.live with
  | false=>cases o <;> first|trivial|(cases hl)
  | true=>exact h2.keep h1 (Agr.refl _ _ _) (by rw[zH,if_neg (fun e=>hne i o ho hl e.1)])
 ·rw[hw];exact h.st.os
 ·rw[hw];exact h.st.tape
 ·rw[hw];exact h.st.output
 ·rw[hw];simpa [zp] using h.st.size
 ·rw[hw] at hi ⊢
  rw[zH,if_neg (fun e=>by omega)]
  exact h.st.block i hi hn
 ·rw[hw];exact h.st.drawn
 ·rw[zH]
  rcases hfx B x hB with⟨rfl,rfl⟩|⟨h1,h2⟩
  ·rw[if_pos ⟨rfl,hlt⟩]
  ·rw[if_neg (fun e=>h1 e.1)]
   exact h.st.fx B x h2
theorem XH.pin {E:XEnv} {own:List Nat} (h:XH E ρ γ H w) (ob:Obj):XH ⟨E.w,pin E.X w.heap.size ob,own⟩ ρ γ H (w.alloc ob):=by
 have hst:=h.st.alloc ob
 refine⟨h.nd,fun i o ho lo=>?_,fun i o ho lo=>?_,fun i o ho=>?_,⟨hst.toStp,fun B x hB=>?_⟩⟩
 ·have:=h.hi i o ho lo
  exact⟨this.1,by simp;omega⟩
 ·have:=(h.hi i o ho lo).2
  simp only[Go.Proofs.YtophoepbedlhjaaGreatDoor.pin]
  rw[if_neg (by omega)]
  exact h.ap i o ho lo
 ·obtain⟨h1,h2⟩:=h.bl i o ho
  refine⟨h1, ?_⟩
  cases hl:o.live with
  | false=>cases o <;> first|trivial|(cases hl)
  | true=>exact h2.keep h1 (Agr.refl _ _ _) (Below.heap_alloc w ob _ (h.hi i o ho hl).2)
 ·simp only[Go.Proofs.YtophoepbedlhjaaGreatDoor.pin] at hB
  split at hB
  ·rename_i e
   injection hB with hB
   subst hB
   subst e
   exact heap_alloc_new w ob
  ·exact hst.fx B x hB
theorem XH.ownless {E:XEnv} (h:XH E ρ γ H w) (own:List Nat):XH ⟨E.w,E.X,own⟩ ρ γ H w:=⟨h.nd,h.hi,h.ap,h.bl,⟨h.st.toStp,h.st.fx⟩⟩
theorem XH.name {k:Nat} (h:XH w0 ρ γ H w) (hn:xnew H k .dead=some H') (l:Nat):XH w0 (upd ρ k l) (upd γ k 0) H' w∧Agr H ρ γ H' (upd ρ k l) (upd γ k 0):=by
 obtain⟨h1,h2⟩:=zS1 hn
 have hA:=zD3 (ρ:=ρ) (γ:=γ) hn l 0
 have hcase:∀i x,H'.get i=some x→x.live=true→i≠k∧H.get i=some x:=fun i x hi lx=>by
  rw[h2] at hi
  split at hi
  ·injection hi with hi;subst hi;cases lx
  ·rename_i e;exact⟨e,hi⟩
 refine⟨⟨fun i j x y hx hy lx ly e=>?_,fun i x hx lx=>?_,fun i x hx lx=>?_,fun i x hx=>?_,h.st⟩,hA⟩
 ·obtain⟨a1,a2⟩:=hcase i x hx lx
  obtain⟨b1,b2⟩:=hcase j y hy ly
  rw[zD1 a1,zD1 b1] at e
  exact h.nd i j x y a2 b2 lx ly e
 ·obtain⟨a1,a2⟩:=hcase i x hx lx
  rw[zD1 a1];exact h.hi i x a2 lx
 ·obtain⟨a1,a2⟩:=hcase i x hx lx
  rw[zD1 a1];exact h.ap i x a2 lx
 ·by_cases hi:i=k
  ·subst hi
   rw[h2,if_pos rfl] at hx
   injection hx with hx
   subst hx
   exact⟨trivial,trivial⟩
  ·rw[h2,if_neg hi] at hx
   obtain⟨g1,g2⟩:=h.bl i x hx
   refine⟨XB.ok_agr hA g1, ?_⟩
   rw[zD1 hi,zD1 hi]
   exact g2.keep g1 hA rfl
theorem zv8:∀{ps:List Nat} {xs:List XV} {F F':XFr} {tm:Array Value},xputs N ps xs F=some F'→(∀i x,F.get i=some x→tm[i]?=some (x.den ρ γ)∧x.ok (H.has γ))→XV.okL (H.has γ) xs→N≤tm.size →
    ps.length=xs.length∧N≤((ps.zip (XV.denL ρ γ xs)).foldl (fun t (p:Nat × Value)=>t.setIfInBounds p.1 p.2) tm).size∧∀i x,F'.get i=some x→((ps.zip (XV.denL ρ γ xs)).foldl (fun t (p:Nat × Value)=>t.setIfInBounds p.1 p.2) tm)[i]?=some (x.den ρ γ)∧x.ok (H.has γ)
 | [],[],F,F',tm,h,hF,hx,hN=>by cases h;exact⟨rfl,hN,hF⟩
 | p :: ps,x :: xs,F,F',tm,h,hF,hx,hN=>by
  unfold xputs at h
  split at h
  ·rename_i F1 hp
   obtain⟨h1,h2⟩:=zR1 hp
   obtain⟨g1,g2,g3⟩:=zv8 (tm:=tm.setIfInBounds p (x.den ρ γ)) h (fun i y hy=>by
    rw[h2] at hy
    split at hy
    ·rename_i e
     injection hy with hy
     subst hy
     subst e
     exact⟨by rw[Array.getElem?_setIfInBounds];simp;omega,hx.1⟩
    ·rename_i e
     rw[Array.getElem?_setIfInBounds_ne (Ne.symm e)]
     exact hF i y hy) hx.2 (by simpa using hN)
   exact⟨by simp[g1],g2,g3⟩
  ·cases h
 | [],_ :: _,_,_,_,h,_,_,_=>by cases h
 | _ :: _,[],_,_,_,h,_,_,_=>by cases h
theorem zK6 {run:Nat→Code→XFr→XHp→Nat→Option (Exit × XSt)} {f:FuncId} {args:List XV} {k k' n:Nat} {u:XV} (h:xenter P run f args H k=some (u,H',k'))
    (hrun:∀N c F e F' k2 a Q,run N c F H k=some (e,F',H',k2)→XR N ⟨w0.w,w0.X,[]⟩ ρ γ F H a w→(∀a' w',XPostE false N ⟨w0.w,w0.X,[]⟩ ρ γ H F' H' a' w'→Q e a' w')→c.wpIn Fence.wide n P Q a w) (hH:XH w0 ρ γ H w) (hok:XV.okL (H.has γ) args) :
    CallsIn Fence.wide n P f (XV.denL ρ γ args).toArray w fun e w'=>∃ρ' γ',e = .returned (u.den ρ' γ')∧XH w0 ρ' γ' H' w'∧u.ok (H'.has γ')∧Agr H ρ γ H' ρ' γ':=by
 unfold xenter at h
 split at h
 ·cases h
 ·rename_i fn hf
  split at h
  ·rename_i c F hb hargs
   split at h
   ·rename_i e F1 H1 k1 hx
    have key:(e = .normal∨e = .ret)→(match xresL P F1 H1 fn.results.toList with
        | some l=>some (xresOf l,H1,k1)
        | none=>none)=some (u,H',k')→CallsIn Fence.wide n P f (XV.denL ρ γ args).toArray w fun e w'=>∃ρ' γ',e = .returned (u.den ρ' γ')∧XH w0 ρ' γ' H' w'∧u.ok (H'.has γ')∧Agr H ρ γ H' ρ' γ':=fun he hm'=>by
     split at hm'
     ·rename_i l hl
      simp only[Option.some.injEq,Prod.mk.injEq] at hm'
      obtain⟨rfl,rfl,rfl⟩:=hm'
      refine callsIn_of_wp_marks hf hb trivial ?_
      obtain⟨g1,g2⟩:=zD8 hargs
      have hlen:args.length≤fn.ntmps:=by
       rcases Nat.eq_zero_or_pos args.length with h0|h0
       ·omega
       ·have:=g1 (args.length - 1) (by omega);omega
      have hR:XR fn.ntmps ⟨w0.w,w0.X,[]⟩ ρ γ F H { tmps:=(XV.denL ρ γ args).toArray++Array.replicate (fn.ntmps - (XV.denL ρ γ args).toArray.size) undef,defers:=[] } w:=by
       refine⟨⟨rfl,List.nodup_nil,fun _ h=>by cases h⟩,by simp[XV.denL_eq];omega,fun i x hi=>?_,hH.ownless []⟩
       rw[g2] at hi
       rw[XV.okL_iff] at hok
       split at hi
       ·rename_i hc
        rw[Nat.sub_zero] at hi
        refine⟨?_,hok x (List.mem_of_getElem? hi)⟩
        rw[Array.getElem?_append_left (by simp[XV.denL_eq];omega)]
        simp[XV.denL_eq,hi]
       ·cases hi
      refine hrun _ _ _ _ _ _ _ _ hx hR fun a' w' hh=>?_
      obtain⟨E,ρ',γ',⟨hE,_⟩,h1,h2⟩:=hh
      have hfin:LeavesInM Fence.wide n P fn a'.tmps (fun e w'=>∃ρ' γ',e = .returned ((xresOf l).den ρ' γ')∧XH w0 ρ' γ' H1 w'∧(xresOf l).ok (H1.has γ')∧Agr H ρ γ H1 ρ' γ') a'.defers .returning w':=by
       obtain⟨d1,d2,d3⟩:=h1.df
       rw[d1]
       have gen:∀(ds:List Nat) (E:XEnv) (w':World),ds.Nodup→(∀D∈ds,E.X D=some (.deferred (some []))∧E.w.heap.size≤D)→(∀D∈ds,w0.X D=none)→E.w=w0.w→(∀B ob,w0.X B=some ob→E.X B=some ob)→XH E ρ' γ' H1 w'→LeavesInM Fence.wide n P fn a'.tmps (fun e w'=>∃ρ' γ',e = .returned ((xresOf l).den ρ' γ')∧XH w0 ρ' γ' H1 w'∧(xresOf l).ok (H1.has γ')∧Agr H ρ γ H1 ρ' γ') (ds.map fun D=>⟨.collected D,#[]⟩) .returning w':=by
        intro ds
        induction ds with
        | nil=>
         intro E w' _ _ _ hw hX hH'
         have hR':XR fn.ntmps ⟨E.w,E.X,[]⟩ ρ' γ' F1 H1 { tmps:=a'.tmps,defers:=[] } w':=⟨⟨rfl,List.nodup_nil,fun _ h=>(by cases h)⟩,h1.sz,h1.fr,hH'.ownless []⟩
         obtain⟨r1,r2⟩:=xres_ok hR' hl
         refine⟨_,r1,ρ',γ',rfl,⟨hH'.nd,fun i o ho lo=>(by rw[←hw];exact hH'.hi i o ho lo),fun i o ho lo=>?_,hH'.bl,⟨(by rw[←hw];exact hH'.st.toStp),fun B ob hB=>hH'.st.fx B ob (hX B ob hB)⟩⟩,r2,h2⟩
         cases hq:w0.X (ρ' i) with
         | none=>rfl
         | some ob=>have:=hH'.ap i o ho lo;rw[hX _ _ hq] at this;cases this
        | cons D ds ih=>
         intro E w' hnd hd h0 hw hX hH'
         obtain⟨e1,e2⟩:=hd D (by simp)
         refine⟨by simp,.inl ⟨D,_,rfl,run_takeDeferred (hH'.st.fx D _ e1), ?_⟩⟩
         have hnd':=List.nodup_cons.1 hnd
         let E2:XEnv:=⟨E.w,fun B=>if B=D then none else E.X B,E.own⟩
         have hne:∀D'∈ds,D'≠D:=fun D' hD' e=>hnd'.1 (e▸hD')
         refine ih E2 _ hnd'.2 (fun D' hD'=>?_) (fun D' hD'=>h0 D' (by simp[hD'])) hw (fun B ob hB=>?_) ?_
         ·have:=hd D' (by simp[hD'])
          exact⟨by simp only[E2];rw[if_neg (hne D' hD')];exact this.1,this.2⟩
         ·simp only[E2]
          rw[if_neg (fun e=>by rw[e,h0 D (by simp)] at hB;cases hB)]
          exact hX B ob hB
         ·refine hH'.turn (E2:=E2) (l:=D) (ob:=.deferred none) rfl ⟨_,e1⟩ e2 (fun B hB=>?_) (fun B x hB=>?_)
          ·simp only[E2];split
           ·rfl
           ·exact hB
          ·simp only[E2] at hB
           split at hB
           ·cases hB
           ·rename_i e;exact .inr ⟨e,hB⟩
       exact gen E.own E w' d2 (fun D hD=>d3 D hD) (fun D hD=>(hE.2.2 D hD).resolve_left (by simp)) hE.1 (fun B ob hB=>hE.2.1 B ob hB) h1.hp
      rcases he with rfl|rfl
      ·exact hfin
      ·exact hfin
     ·cases hm'
    cases e with
    | normal=>exact key (.inl rfl) h
    | ret=>exact key (.inr rfl) h
    | _=>cases h
   ·cases h
  ·cases h
end
end
section
open Go Go.RowKit
set_option maxRecDepth 100000
section
variable {P:Program} {w0:XEnv} {ρ γ:Nat→Nat} {F F':XFr} {H H':XHp} {a:Act} {w:World} {o:Oper} {call:XCf}
theorem XPostE.of {rd:Bool} {N:Nat} (h:XPost N w0 ρ γ H F' H' a w):XPostE rd N w0 ρ γ H F' H' a w:=by
 obtain⟨ρ',γ',h1,h2⟩:=h
 exact⟨w0,ρ',γ',⟨Ext.refl _,fun _=>rfl⟩,h1,h2⟩
theorem ze10 {N:Nat} {m:Nat} {fn:FuncId} {ps:Array Nat} {assign body:Code} {l:Nat} {D:Nat} {Fl:XFr} {Hl:XHp} {al:Act} {xa xb:XFr→XHp→Nat→Option (Exit × XSt)}
    (hxa:∀{E:XEnv} {ρ γ:Nat→Nat} {F:XFr} {H:XHp} {k k':Nat} {F':XFr} {H':XHp} {e:Exit} {a:Act} {w:World} {Q:Exit→Act→World→Prop},xa F H k=some (e,F',H',k')→XR N E ρ γ F H a w→(∀a' w',XPostE true N E ρ γ H F' H' a' w'→Q e a' w')→assign.wpIn (Fence.wide.inRound l) m P Q a w)
    (hxb:∀{E:XEnv} {ρ γ:Nat→Nat} {F:XFr} {H:XHp} {k k':Nat} {F':XFr} {H':XHp} {e:Exit} {a:Act} {w:World} {Q:Exit→Act→World→Prop},xb F H k=some (e,F',H',k')→XR N E ρ γ F H a w→(∀a' w',XPostE true N E ρ γ H F' H' a' w'→Q e a' w')→body.wpIn (Fence.wide.inRound l) m P Q a w)
    {rec:Loop} (hrec:rec={ state:=.ready,pending:=none,fn:=fn,tmps:=al.tmps,params:=ps,assign:=assign,body:=body,defers:=D }) {E':XEnv} (hX:E'.X l=some (.loop rec)) (hlb:E'.w.heap.size≤l) (hRl:N≤al.tmps.size∧∀i x,Fl.get i=some x→al.tmps[i]?=some (x.den ρ γ)∧x.ok (Hl.has γ))
    {args:List XV} {k k':Nat} {H':XHp} (h:xround N ps.toList xa xb Fl args H k=some (H',k')) {ρ1 γ1:Nat→Nat} (hH:XH E' ρ1 γ1 H w) (hok:XV.okL (H.has γ1) args) (hA:Agr Hl ρ γ H ρ1 γ1) :
    ∃fn tmps assign body,(Instr.yield l (XV.denL ρ1 γ1 args).toArray).run P w = .ok (.round l fn tmps assign body) w∧RoundIn Fence.wide m P l fn tmps assign body w (fun e w'=>e = .returned (.bool true)∧∃ρ' γ',XH E' ρ' γ' H' w'∧Agr H ρ1 γ1 H' ρ' γ'):=by
 unfold xround at h
 split at h
 ·rename_i F1 hps
  split at h
  ·rename_i F2 H2 k2 hxa'
   split at h
   ·rename_i F3 H3 k3 hxb'
    simp only[Option.some.injEq,Prod.mk.injEq] at h
    obtain⟨rfl,rfl⟩:=h
    have hFr:∀i x,Fl.get i=some x→al.tmps[i]?=some (x.den ρ1 γ1)∧x.ok (H.has γ1):=fun i x hi=>by
     obtain⟨h1,h2⟩:=hRl.2 i x hi
     exact⟨by rw[hA.den h2];exact h1,hA.ok h2⟩
    obtain⟨p1,p2,p3⟩:=zv8 (tm:=al.tmps) hps hFr hok hRl.1
    have hl:=hH.st.fx l _ hX
    refine⟨fn,(ps.zip (XV.denL ρ1 γ1 args).toArray).foldl (fun tmps (t,a)=>tmps.setIfInBounds t a) al.tmps,assign,body, ?_, ?_⟩
    ·have:=run_yield (P:=P) (args:=(XV.denL ρ1 γ1 args).toArray) hl (by rw[hrec];simp[XV.denL_eq];rw[←p1];simp)
     rw[hrec] at this
     exact this
    ·have htm:(ps.zip (XV.denL ρ1 γ1 args).toArray).foldl (fun tmps (t,a)=>tmps.setIfInBounds t a) al.tmps=(ps.toList.zip (XV.denL ρ1 γ1 args)).foldl (fun t (p:Nat × Value)=>t.setIfInBounds p.1 p.2) al.tmps:=by
      rw[←Array.foldl_toList]
      simp
     rw[htm]
     refine roundIn_of_wpIn trivial ?_
     let Er:XEnv:=⟨E'.w,E'.X,[]⟩
     refine hxa (E:=Er) hxa' ⟨⟨rfl,List.nodup_nil,fun _ h=>(by cases h)⟩,p2,p3,hH.ownless []⟩ fun a1 w1 hh=>?_
     obtain⟨E1,ρ2,γ2,⟨_,x1⟩,x2,x3⟩:=hh
     obtain rfl:=x1 rfl
     have hl1:=x2.hp.st.fx l _ hX
     refine⟨_,run_beginRound hl1 (by rw[hrec]), ?_⟩
     let Eb:XEnv:=⟨E'.w,fun B=>if B=l then some (.loop { rec with state:=.busy }) else E'.X B,[]⟩
     have hturn:XH Eb ρ2 γ2 H2 (w1.putObj l (.loop { rec with state:=.busy })):=x2.hp.turn (E2:=Eb) (l:=l) (ob:=.loop { rec with state:=.busy }) rfl ⟨_,hX⟩ hlb (fun B hB=>by
      simp only[Eb]
      rw[if_neg (fun e=>by rw[e] at hB;simp only[Er] at hB;rw[hX] at hB;cases hB)]
      exact hB) (fun B x hB=>by
      simp only[Eb] at hB
      split at hB
      ·rename_i e;injection hB with hB;exact .inl ⟨e,hB.symm⟩
      ·rename_i e;exact .inr ⟨e,hB⟩)
     refine hxb (E:=Eb) hxb' ⟨⟨x2.df.1,List.nodup_nil,fun _ h=>(by cases h)⟩,x2.sz,x2.fr,hturn⟩ fun a2 w2 hh=>?_
     obtain⟨E2,ρ3,γ3,⟨_,y1⟩,y2,y3⟩:=hh
     obtain rfl:=y1 rfl
     have hEl:Eb.X l=some (.loop { rec with state:=.busy }):=if_pos rfl
     have hl2:=y2.hp.st.fx l _ hEl
     refine⟨_,_,run_endRound none hl2,rfl,ρ3,γ3, ?_,x3.trans y3⟩
     have hrec2:({ { rec with state:=.busy } with state:=if (none:Option Code).isNone then .ready else .done,pending:=none }:Loop)=rec:=by rw[hrec];rfl
     rw[hrec2]
     refine y2.hp.turn (E2:=E') (l:=l) (ob:=.loop rec) rfl ⟨_,hEl⟩ hlb (fun B hB=>?_) (fun B x hB=>?_)
     ·simp only[Eb] at hB
      split at hB
      ·cases hB
      ·exact hB
     ·by_cases hBl:B=l
      ·subst hBl
       rw[hX] at hB
       injection hB with hB
       exact .inl ⟨rfl,hB.symm⟩
      ·refine .inr ⟨hBl, ?_⟩
       simp only[Eb]
       rw[if_neg hBl]
       exact hB
   ·cases h
  ·cases h
 ·cases h
theorem zQ (hm:P.follows .mixedOrders=true) (hc:XCfOk P call):∀(n:Nat) {N m:Nat} {yh:XYh} {rd:Bool} {Fe:Fence} {c:Code} {F:XFr} {H:XHp} {k k':Nat} {e:Exit} {F':XFr} {H':XHp} {w0:XEnv} {ρ γ:Nat→Nat} {a:Act} {w:World} {Q:Exit→Act→World→Prop},XF rd Fe→(rd=true→yh=none)→xcode P call n N yh rd c F H k=some (e,F',H',k')→XR N w0 ρ γ F H a w→XYS P w0 ρ γ H yh→(∀a' w',XPostE rd N w0 ρ γ H F' H' a' w'→Q e a' w')→c.wpIn Fe m P Q a w∧∀b,c = .loop b→Code.roundsIn Fe m P b Q n a w
 | 0,N,m,yh,rd,Fe,c,F,H,k,k',e,F',H',w0,ρ,γ,a,w,Q,hF,hr,h,hR,hY,hQ=>by cases h
 | n+1,N,m,yh,rd,Fe,c,F,H,k,k',e,F',H',w0,ρ,γ,a,w,Q,hF,hr,h,hR,hY,hQ=>by
  have now:XPostE rd N w0 ρ γ H F H a w:=⟨w0,ρ,γ,⟨Ext.refl _,fun _=>rfl⟩,hR,Agr.refl _ _ _⟩
  unfold xcode at h
  split at h
  ·simp only[Option.some.injEq,Prod.mk.injEq] at h
   obtain⟨rfl,rfl,rfl,rfl⟩:=h
   exact⟨wpIn_skip (hQ _ _ now),fun b hb=>by cases hb⟩
  ·rename_i id ops draw
   refine⟨?_,fun b hb=>by cases hb⟩
   cases draw with
   | false=>
    simp only at h
    split at h
    ·rename_i s hs
     simp only[Option.some.injEq,Prod.mk.injEq] at h
     obtain⟨rfl,rfl⟩:=h
     refine wpIn_region_list ?_
     have:=zM4 (Q:=Q) (n:=m) hF hr hc hs hR hY fun a' w' hh=>hQ _ _ (XPostE.of hh)
     simpa using this
    ·cases h
   | true=>
    simp only at h
    split at h
    ·split at h
     ·rename_i s hs
      simp only[Option.some.injEq,Prod.mk.injEq] at h
      obtain⟨rfl,rfl⟩:=h
      obtain rfl:Fe=Fence.wide:=by
       rcases hF with⟨_,h⟩|⟨h,_⟩
       ·exact h
       ·cases h
      exact wpIn_wide.2 (xdraw_ok hm hc hs hR fun a' w' hh=>hQ _ _ (XPostE.of hh))
     ·cases h
    ·cases h
  ·rename_i x y
   refine⟨wpIn_seq ?_,fun b hb=>by cases hb⟩
   cases hx:xcode P call n N yh rd x F H k with
   | none=>rw[hx] at h;cases h
   | some r=>
    obtain⟨e1,F1,H1,k1⟩:=r
    rw[hx] at h
    refine(zQ hm hc n hF hr hx hR hY fun a' w' hh=>?_).1
    cases e1
    case normal=>
     simp only at h
     obtain⟨E1,ρ1,γ1,⟨q1,q2⟩,h1,h2⟩:=hh
     exact(zQ hm hc n hF hr h h1 (hY.step q1 h2) fun a2 w2 ⟨E2,ρ2,γ2,⟨q3,q4⟩,h3,h4⟩=>hQ _ _ ⟨E2,ρ2,γ2,⟨q1.trans q3,fun hh=>(q4 hh).trans (q2 hh)⟩,h3,h2.trans h4⟩).1
    all_goals
     simp only[Option.some.injEq,Prod.mk.injEq] at h
     obtain⟨rfl,rfl,rfl,rfl⟩:=h
     exact hQ _ _ hh
  ·rename_i x t e'
   refine⟨?_,fun b hb=>by cases hb⟩
   split at h
   ·rename_i hx;exact wpIn_cond_true (hR.evp hx) (zQ hm hc n hF hr h hR hY hQ).1
   ·rename_i hx;exact wpIn_cond_false (hR.evp hx) (zQ hm hc n hF hr h hR hY hQ).1
   ·cases h
  ·rename_i id b
   refine⟨wpIn_block ?_,fun b hb=>by cases hb⟩
   cases hx:xcode P call n N yh rd b F H k with
   | none=>rw[hx] at h;cases h
   | some r=>
    obtain⟨e1,F1,H1,k1⟩:=r
    rw[hx] at h
    refine(zQ hm hc n hF hr hx hR hY fun a' w' hh=>?_).1
    cases e1
    case exit id'=>
     simp only at h
     simp only[Exit.inBlock]
     split at h
     ·rename_i hb
      simp only[Option.some.injEq,Prod.mk.injEq] at h
      obtain⟨rfl,rfl,rfl,rfl⟩:=h
      rw[if_pos (Nat.eq_of_beq_eq_true hb)]
      exact hQ _ _ hh
     ·rename_i hb
      simp only[Option.some.injEq,Prod.mk.injEq] at h
      obtain⟨rfl,rfl,rfl,rfl⟩:=h
      rw[if_neg (Nat.ne_of_beq_eq_false hb)]
      exact hQ _ _ hh
    all_goals
     simp only[Option.some.injEq,Prod.mk.injEq] at h
     obtain⟨rfl,rfl,rfl,rfl⟩:=h
     exact hQ _ _ hh
  ·rename_i b
   have key:Code.roundsIn Fe m P b Q (n+1) a w:=by
    split at h
    ·rename_i q hq
     cases hck:xmchk P N call yh (xcode P call n N yh rd q.tail) n F H k q with
     | false=>rw[hck] at h;cases h
     | true=>
      rw[hck] at h
      simp only[cond_true] at h
      obtain⟨_,_,_,_,_,_,_,_,_,_,_,_,_,_,hbi,_⟩:=zy8 hq
      have hc':=hck
      unfold xmchk at hc'
      simp only[Bool.and_eq_true] at hc'
      obtain⟨⟨⟨⟨⟨_,c2⟩,_⟩,_⟩,c5⟩,_⟩:=hc'
      rw[Nat.blt_eq] at c5
      exact xml_ok hF hr hc hq hck h (fun hx hR hY hQ=>(zQ hm hc n hF hr hx hR hY hQ).1) hY hQ q.bs.length (n+1) (by omega) (E:=w0) (ρ:=ρ) (γ:=γ) (seen:=[]) (last:=q.last) (Hs:=H) ⟨Ext.refl _,fun _=>rfl⟩ (fun i=>by split;(rename_i e;rw[e];exact hbi);rfl) (Agr.refl _ _ _) hR (Nat.le_of_ble_eq_true c2) (List.length_filter_le _ _)
    ·rw[roundsIn_succ]
     cases hx:xcode P call n N yh rd b F H k with
     | none=>rw[hx] at h;cases h
     | some r=>
      obtain⟨e1,F1,H1,k1⟩:=r
      rw[hx] at h
      refine(zQ hm hc n hF hr hx hR hY fun a' w' hh=>?_).1
      cases e1
      case normal=>
       simp only at h
       obtain⟨E1,ρ1,γ1,⟨q1,q2⟩,h1,h2⟩:=hh
       exact(zQ hm hc n hF hr h h1 (hY.step q1 h2) fun a2 w2 ⟨E2,ρ2,γ2,⟨q3,q4⟩,h3,h4⟩=>hQ _ _ ⟨E2,ρ2,γ2,⟨q1.trans q3,fun hh=>(q4 hh).trans (q2 hh)⟩,h3,h2.trans h4⟩).2 b rfl
      all_goals
       simp only[Option.some.injEq,Prod.mk.injEq] at h
       obtain⟨rfl,rfl,rfl,rfl⟩:=h
       exact hQ _ _ hh
   refine⟨wpIn_loop_rounds (n+1) key,fun b' hb=>?_⟩
   injection hb with hb
   subst hb
   exact key
  ·simp only[Option.some.injEq,Prod.mk.injEq] at h
   obtain⟨rfl,rfl,rfl,rfl⟩:=h
   exact⟨wpIn_exit (hQ _ _ now),fun b hb=>by cases hb⟩
  ·simp only[Option.some.injEq,Prod.mk.injEq] at h
   obtain⟨rfl,rfl,rfl,rfl⟩:=h
   exact⟨wpIn_ret (hQ _ _ now),fun b hb=>by cases hb⟩
  ·simp only[Option.some.injEq,Prod.mk.injEq] at h
   obtain⟨rfl,rfl,rfl,rfl⟩:=h
   exact⟨wpIn_label (hQ _ _ now),fun b hb=>by cases hb⟩
  ·rename_i g ps assign body
   refine⟨?_,fun b hb=>by cases hb⟩
   split at h
   ·rename_i gf caps hg
    cases hok:okFn P gf with
    | false=>rw[hok] at h;cases h
    | true=>
     rw[hok] at h
     simp only[cond_true] at h
     split at h
     ·rename_i H1 hn
      split at h
      ·rename_i u H2 k2 hx
       simp only[Option.some.injEq,Prod.mk.injEq] at h
       obtain⟨rfl,rfl,rfl,rfl⟩:=h
       obtain rfl:Fe=Fence.wide:=by
        rcases hF with⟨_,h⟩|⟨h,_⟩
        ·exact h
        ·cases h
       obtain⟨f1,f2⟩:=hR.evn hg
       refine wpIn_rangeFunc fun fn _=>?_
       let D:=w.heap.size
       let l:=w.heap.size+1
       let rec_:Loop:={ state:=.ready,pending:=none,fn:=fn,tmps:=a.tmps,params:=ps,assign:=assign,body:=body,defers:=D }
       let w1:=(w.alloc (.deferred (some []))).alloc (.loop rec_)
       have hsz1:(w.alloc (.deferred (some []))).heap.size=w.heap.size+1:=by simp
       let E1:XEnv:=⟨w0.w,pin (pin w0.X w.heap.size (.deferred (some []))) (w.heap.size+1) (.loop rec_),w0.own⟩
       have hH1:XH E1 ρ γ H w1:=by
        have h1:=(hR.hp.pin (own:=w0.own) (.deferred (some []))).pin (own:=w0.own) (.loop rec_)
        rw[hsz1] at h1
        exact h1
       obtain⟨hH2,hA2⟩:=hH1.name hn l
       have hkb:(H1.get k).isSome=true:=by rw[(zS1 hn).2,if_pos rfl];rfl
       have hcaps:XV.okL (H1.has (upd γ k 0)) (XV.yl k :: caps):=⟨⟨hkb,Nat.zero_le _⟩,by
        rw[XV.okL_iff]
        rw[XV.ok,XV.okL_iff] at f2
        exact fun x hx=>hA2.ok (f2 x hx)⟩
       have hXl:E1.X l=some (.loop rec_):=if_pos rfl
       have hlb:E1.w.heap.size≤l:=Nat.le_trans hR.hp.st.size (Nat.le_succ _)
       have hRl:N≤a.tmps.size∧∀i x,F.get i=some x→a.tmps[i]?=some (x.den (upd ρ k l) (upd γ k 0))∧x.ok (H1.has (upd γ k 0)):=⟨hR.sz,fun i x hi=>by
        obtain⟨h1,h2⟩:=hR.fr i x hi
        exact⟨by rw[hA2.den h2];exact h1,hA2.ok h2⟩⟩
       have hcall:=zK6 (w0:=E1) (n:=m - 1) hx (fun N' c' F0 e' F3 k3 a' Q' hr' hR' hQ'=>by
        refine(zQ hm hc n (m:=m - 1) (.inl ⟨rfl,rfl⟩) (fun h=>by cases h) hr' hR' ?_ hQ').1
        refine⟨hkb,H1,upd ρ k l,upd γ k 0,Agr.refl _ _ _, ?_⟩
        rw[zE1]
        intro E' hE' args H4 k4 H5 k5 hround ρ4 γ4 w4 hH4 hok4 hA4 n4
        exact ze10 (m:=n4) (l:=l) (D:=D) (fn:=fn) (al:=a)
         (fun hx hR hQ=>(zQ hm hc n (.inr ⟨rfl,l,rfl⟩) (fun _=>rfl) hx hR trivial hQ).1)
         (fun hx hR hQ=>(zQ hm hc n (.inr ⟨rfl,l,rfl⟩) (fun _=>rfl) hx hR trivial hQ).1)
         rfl (hE'.2.1 l _ hXl) (by rw[hE'.1];exact hlb) hRl hround hH4 hok4 hA4) hH2 hcaps
       refine⟨l,[⟨.collected D,#[]⟩],w1,⟨.fn (.func gf) (XV.denL ρ γ caps).toArray,#[.func (.yield l) #[] #[]]⟩,w1,gf,(XV.denL (upd ρ k l) (upd γ k 0) (XV.yl k :: caps)).toArray,w1, ?_, ?_,fun _ _=>trivial, ?_,fun h=>(by cases h),hcall.mono ?_⟩
       ·exact run_enterLoop_outer (P:=P) (w:=w) fn a.tmps ps assign body
       ·simp only[resolve,rangeCall,f1,XV.den,Deferred.ofValue]
        simp[Act.eval]
       ·have:#[Value.func (.yield l) #[] #[]]++(XV.denL ρ γ caps).toArray=(XV.denL (upd ρ k l) (upd γ k 0) (XV.yl k :: caps)).toArray:=by
         rw[XV.denL,XV.den,zE1]
         have hd:XV.denL (upd ρ k l) (upd γ k 0) caps=XV.denL ρ γ caps:=by
          rw[XV.denL_eq,XV.denL_eq]
          rw[XV.ok,XV.okL_iff] at f2
          exact List.map_congr_left fun x hx=>hA2.den (f2 x hx)
         rw[hd]
         simp
        simp only[invoke,this]
        exact zF1 hok
       ·rintro e' w3 ⟨ρ3,γ3,rfl,r1,r2,r3⟩
        have hl3:=r1.st.fx l _ hXl
        refine⟨none,_,run_endLoop hl3 (by simp[rec_]), ?_⟩
        refine hQ _ _ ?_
        let E2:XEnv:=⟨w0.w,pin w0.X w.heap.size (.deferred (some [])),w.heap.size :: w0.own⟩
        have hnX:w0.X w.heap.size=none:=hR.hp.st.new
        have hnXl:w0.X l=none:=by
         cases hq:w0.X l with
         | none=>rfl
         | some ob=>have h1:=hR.hp.st.lt hq;have h2:l=w.heap.size+1:=rfl;omega
        have hturn:XH E2 ρ3 γ3 H2 (w3.putObj l (.loop { rec_ with state:=.exhausted })):=r1.turn (E2:=E2) (l:=l) (ob:=.loop { rec_ with state:=.exhausted }) rfl ⟨_,hXl⟩ hlb (fun B hB=>by
         simp only[E1,pin] at hB
         simp only[E2,pin]
         split at hB
         ·cases hB
         ·exact hB) (fun B x hB=>by
         simp only[E2,pin] at hB
         refine .inr ⟨fun e=>?_, ?_⟩
         ·rw[e] at hB
          split at hB
          ·rename_i e2;have h2:l=w.heap.size+1:=rfl;omega
          ·rw[hnXl] at hB;cases hB
         ·simp only[E1,pin]
          split
          ·rename_i e
           exfalso
           rw[e] at hB
           split at hB
           ·omega
           ·have h2:l=w.heap.size+1:=rfl
            rw[←h2,hnXl] at hB;cases hB
          ·exact hB)
        have hAll:=hA2.trans r3
        refine⟨E2,ρ3,γ3,⟨⟨rfl,fun B ob hB=>?_,fun D' hD'=>?_⟩,fun h=>(by cases h)⟩,⟨⟨?_, ?_,fun D' hD'=>?_⟩,hR.sz,fun i x hi=>?_,hturn⟩,hAll⟩
        ·simp only[E2,pin]
         rw[if_neg (fun e=>by rw[e,hnX] at hB;cases hB)]
         exact hB
        ·rcases List.mem_cons.1 hD' with rfl|h
         ·exact .inr hnX
         ·exact .inl h
        ·simp only[E2,List.map_cons,List.singleton_append,hR.df.1]
         rfl
        ·refine List.nodup_cons.2 ⟨fun h=>?_,hR.df.2.1⟩
         have:=(hR.df.2.2 _ h).1
         rw[hnX] at this;cases this
        ·rcases List.mem_cons.1 hD' with rfl|h
         ·exact⟨if_pos rfl,hR.hp.st.size⟩
         ·obtain⟨d1,d2⟩:=hR.df.2.2 _ h
          refine⟨?_,d2⟩
          simp only[E2,pin]
          rw[if_neg (fun e=>by rw[e,hnX] at d1;cases d1)]
          exact d1
        ·obtain⟨h1,h2⟩:=hR.fr i x hi
         exact⟨by rw[hAll.den h2];exact h1,hAll.ok h2⟩
      ·cases h
     ·cases h
   ·cases h
  ·cases h
end
end
end Go.Proofs.YtophoepbedlhjaaGreatDoor
