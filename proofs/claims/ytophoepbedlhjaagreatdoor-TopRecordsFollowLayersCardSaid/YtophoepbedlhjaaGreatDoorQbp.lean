/- Closed calls: new blocks, blocks written. Conditions: none. -/
import Derived.Test.YtophoepbedlhjaaGreatDoorQbo
set_option linter.unusedSimpArgs false
set_option linter.unusedVariables false
namespace Go.Proofs.YtophoepbedlhjaaGreatDoor
section
open Go Go.RowKit
set_option maxRecDepth 100000
def nowIx (d:TypeDesc) (k:Value):List Value→Nat→Option (Option Nat)
 | [],_=>some none
 | k' :: ks,i=>match Instr.sameNow d k k' with
  | some true=>some (some i)
  | some false=>nowIx d k ks (i+1)
  | none=>none
def askIx (P:Program) (kt:TypeId) (k:Value):List Value→Nat→Option (Option Nat)
 | [],_=>some none
 | k' :: ks,i=>match semPure P (Op.equal kt k k') with
  | some true=>some (some i)
  | some false=>askIx P kt k ks (i+1)
  | none=>none
def xfindIx (P:Program) (kt:TypeId) (k:Value) (ks:List Value):Option (Option Nat):=match P.underlying kt with
 | none=>none
 | some d=>match nowIx d k ks 0 with
  | some r=>some r
  | none=>askIx P kt k ks 0
section
variable {P:Program} {N:Nat} {w0:XEnv} {ρ γ:Nat→Nat} {F:XFr} {H:XHp} {a:Act} {w:World} {o:Oper}
theorem zT10 {d:TypeDesc} {k:Value}:∀{ms:List MapEntry} {i:Nat} {r:Option (Option Nat)},nowIx d k (ms.map (·.key)) i=r→(r=none→Instr.findNow d k ms i=none)∧(r=some none→Instr.findNow d k ms i=some none)∧∀j,r=some (some j)→∃e,i≤j∧ms[j - i]?=some e∧Instr.findNow d k ms i=some (some (j,e.val))
 | [],i,r,h=>by
  subst h
  exact⟨fun h=>(by cases h),fun _=>rfl,fun j h=>(by cases h)⟩
 | e :: ms,i,r,h=>by
  rw[List.map_cons,nowIx] at h
  rw[Instr.findNow]
  cases hs:Instr.sameNow d k e.key with
  | none=>rw[hs] at h;subst h;exact⟨fun _=>rfl,fun h=>(by cases h),fun j h=>(by cases h)⟩
  | some b=>
   rw[hs] at h
   cases b with
   | true=>
    subst h
    refine⟨fun h=>(by cases h),fun h=>(by cases h),fun j h=>?_⟩
    simp only[Option.some.injEq] at h
    subst h
    exact⟨e,Nat.le_refl _,by simp,rfl⟩
   | false=>
    obtain⟨h1,h2,h3⟩:=zT10 h
    refine⟨h1,h2,fun j hj=>?_⟩
    obtain⟨e',g1,g2,g3⟩:=h3 j hj
    exact⟨e',by omega,by rw[show j - i=(j - (i+1))+1 by omega];simpa using g2,g3⟩
theorem ask_ok {kt:TypeId} {k:Value}:∀{ms:List MapEntry} {i:Nat} {r:Option Nat},askIx P kt k (ms.map (·.key)) i=some r→(r=none→(Instr.findAsking kt k ms i).run P w = .ok none w)∧∀j,r=some j→∃e,i≤j∧ms[j - i]?=some e∧(Instr.findAsking kt k ms i).run P w = .ok (some (j,e.val)) w
 | [],i,r,h=>by
  cases h
  exact⟨fun _=>rfl,fun j h=>(by cases h)⟩
 | e :: ms,i,r,h=>by
  rw[List.map_cons,askIx] at h
  rw[Instr.findAsking]
  cases hs:semPure P (Op.equal kt k e.key) with
  | none=>rw[hs] at h;cases h
  | some b=>
   rw[hs] at h
   have hrun:=zG w hs
   simp only[Sem.run_bind,hrun,Result.andThen_ok]
   cases b with
   | true=>
    cases h
    refine⟨fun h=>(by cases h),fun j h=>?_⟩
    simp only[Option.some.injEq] at h
    subst h
    exact⟨e,Nat.le_refl _,by simp,rfl⟩
   | false=>
    obtain⟨h2,h3⟩:=ask_ok h
    refine⟨h2,fun j hj=>?_⟩
    obtain⟨e',g1,g2,g3⟩:=h3 j hj
    exact⟨e',by omega,by rw[show j - i=(j - (i+1))+1 by omega];simpa using g2,g3⟩
theorem zv6 {kt:TypeId} {k:Value} {ms:List MapEntry} {r:Option Nat} (h:xfindIx P kt k (ms.map (·.key))=some r):(r=none→(Instr.findKey kt k ms).run P w = .ok none w)∧∀j,r=some j→∃e,ms[j]?=some e∧(Instr.findKey kt k ms).run P w = .ok (some (j,e.val)) w:=by
 unfold xfindIx at h
 split at h
 ·cases h
 ·rename_i d hd
  unfold Instr.findKey
  simp only[Sem.run_bind,zC hd,Result.andThen_ok]
  cases hn:nowIx d k (ms.map (·.key)) 0 with
  | some r'=>
   rw[hn] at h
   cases h
   obtain⟨_,h2,h3⟩:=zT10 hn
   refine⟨fun hr=>?_,fun j hj=>?_⟩
   ·subst hr;rw[h2 rfl];rfl
   ·subst hj
    obtain⟨e,_,g2,g3⟩:=h3 j rfl
    exact⟨e,g2,by rw[g3];rfl⟩
  | none=>
   rw[hn] at h
   obtain⟨h1,_,_⟩:=zT10 hn
   rw[h1 rfl]
   obtain⟨h2,h3⟩:=ask_ok (w:=w) h
   refine⟨h2,fun j hj=>?_⟩
   obtain⟨e,_,g2,g3⟩:=h3 j hj
   exact⟨e,g2,g3⟩
theorem zY7 {es:List (Value × XV)} {ms:Array MapEntry} (h:ms.toList.map (fun m=>(m.key,m.val))=es.map fun p=>(p.1,p.2.den ρ γ)):ms.toList.map (·.key)=es.map Prod.fst∧ms.size=es.length∧∀(j:Nat) (e:MapEntry) (p:Value × XV),ms.toList[j]?=some e→es[j]?=some p→e.key=p.1∧e.val=p.2.den ρ γ:=by
 refine⟨?_,by have:=congrArg List.length h;simpa using this,fun j e p he hp=>?_⟩
 ·have:=congrArg (List.map Prod.fst) h
  simpa [List.map_map,Function.comp_def] using this
 ·have:=congrArg (fun l:List (Value × Value)=>l[j]?) h
  simp only[List.getElem?_map,he,hp,Option.map_some,Option.some.injEq,Prod.mk.injEq] at this
  exact this
theorem zF2 {b:Nat} {ms:Array MapEntry} {ck:Nat} (h:w.heap[b]?=some (.map ms ck)):(getObj b).run P w = .ok (.map ms ck) w:=by
 unfold getObj
 simp[Sem.run,h]
def xlookR (ok:Bool) (v:XV) (is:Bool):XV:=match ok with
 | true=>.t [v,.v (.bool is)]
 | false=>v
theorem zF5 (ok:Bool) (v:XV) (is:Bool):(xlookR ok v is).den ρ γ=if ok then .tuple #[v.den ρ γ,.bool is] else v.den ρ γ:=by
 cases ok <;> simp[xlookR,XV.den,XV.denL]
theorem zH6 {A:Nat→Nat→Prop} {ok:Bool} {v:XV} {is:Bool} (h:v.ok A):(xlookR ok v is).ok A:=by
 cases ok
 ·exact h
 ·exact⟨h,trivial,trivial⟩
def xlook (P:Program) (F:XFr) (H:XHp) (op:Op):Option XV:=match op with
 | .lookup t x ix ok=>(match P.underlying t,xevp F ix with
  | some (.map kt et),some k=>(match xev F x with
   | some (.m b)=>(match H.get b with
    | some (.map es _ _)=>(match semPure P (Instr.checkKey es.isEmpty 10000 kt k),xfindIx P kt k (es.map Prod.fst) with
     | some _,some (some j)=>(match es[j]? with
      | some p=>some (xlookR ok p.2 true)
      | none=>none)
     | some _,some none=>(match (P.info? et).bind (·.zero) with
      | some z=>some (xlookR ok (xnorm z) false)
      | none=>none)
     | _,_=>none)
    | _=>none)
   | _=>none)
  | _,_=>none)
 | .call ⟨.builtin .len,⟨[x]⟩,⟨[t]⟩⟩=>(match xev F x with
  | some (.sl _ _ n _)=>(match elemSz P t with
   | some _=>some (.v (.int .i64 n))
   | none=>none)
  | some (.sg _ _ n _)=>(match elemSz P t with
   | some _=>some (.v (.int .i64 n))
   | none=>none)
  | some (.se _ _ _ _)=>(match elemSz P t with
   | some _=>some (.v (.int .i64 (0:Nat)))
   | none=>none)
  | some (.m b)=>(match P.underlying t,H.get b with
   | some (.map _ _),some (.map es _ _)=>some (.v (.int .i64 es.length))
   | _,_=>none)
  | _=>none)
 | .call ⟨.builtin .cap,⟨[x]⟩,⟨[t]⟩⟩=>(match xev F x with
  | some (.sl _ _ _ c)=>(match elemSz P t with
   | some _=>some (.v (.int .i64 c))
   | none=>none)
  | _=>none)
 | .binOp .eql t x y _=>(match xevn F x,xevn F y with
  | some u,some v=>(match xisnil u v,P.underlying t with
   | some f,some d=>(match f d with
    | some false=>some (.v (.bool false))
    | _=>none)
   | _,_=>none)
  | _,_=>none)
 | .binOp .neq t x y _=>(match xevn F x,xevn F y with
  | some u,some v=>(match xisnil u v,P.underlying t with
   | some f,some d=>(match f d with
    | some false=>some (.v (.bool true))
    | _=>none)
   | _,_=>none)
  | _,_=>none)
 | .load t x=>(match xev F x with
  | some (.p b j)=>xload P t H b j
  | _=>none)
 | _=>none
theorem zI6 {u v:XV} {f:TypeDesc→Option Bool} {t:TypeId} {d:TypeDesc} (h:xisnil u v=some f) (hd:P.underlying t=some d) (hf:f d=some false):(Op.equal t (u.den ρ γ) (v.den ρ γ)).run P w = .ok false w∧(∀op x y,(eqGuard op t x y (u.den ρ γ) (v.den ρ γ)).run P w = .ok () w)∧(∀(op:BinOp) (r:Result Value),(op = .eql∧r = .ok (.bool false) w)∨(op = .neq∧r = .ok (.bool true) w)→(binOp op t (u.den ρ γ) (v.den ρ γ)).run P w=r):=by
 have he:(Op.equal t (u.den ρ γ) (v.den ρ γ)).run P w = .ok false w:=by
  unfold Op.equal Op.maxDepth
  rw[show 10000=9999+1 from rfl,Op.equalIn]
  simp only[Sem.run_bind,zC hd,Result.andThen_ok]
  generalize 9999=q
  unfold xisnil at h
  split at h
  all_goals first
   | (cases h;done)
   | (simp only[Option.some.injEq] at h;subst h;cases d <;> first|(cases hf;done)|(simp only[XV.den];rfl))
 refine⟨he,fun op x y=>?_,fun op r hr=>?_⟩
 ·unfold xisnil at h
  split at h
  all_goals first
   | (cases h;done)
   | (unfold eqGuard;simp only[XV.den];cases op <;> rfl)
 ·have hb:(do pure (.bool (←Op.equal t (u.den ρ γ) (v.den ρ γ))):Sem Value).run P w = .ok (.bool false) w:=by simp only[Sem.run_bind,he,Result.andThen_ok,Sem.run_pure]
  have hb2:(do pure (.bool (!(←Op.equal t (u.den ρ γ) (v.den ρ γ)))):Sem Value).run P w = .ok (.bool true) w:=by simp only[Sem.run_bind,he,Result.andThen_ok,Sem.run_pure,Bool.not_false]
  unfold xisnil at h
  split at h
  all_goals first
   | (cases h;done)
   | (rcases hr with⟨rfl,rfl⟩|⟨rfl,rfl⟩
      ·exact hb
      ·exact hb2)
theorem zL4 {v:XV} (h:xlook P F H o.op=some v) (hR:XR N w0 ρ γ F H a w):(execOp a.eval o).run P w = .ok (.value (v.den ρ γ)) w∧v.ok (H.has γ):=by
 unfold xlook at h
 split at h
 ·rename_i t x ix ok ho
  split at h
  ·rename_i kt et k hu hk
   split at h
   ·rename_i b hx
    split at h
    ·rename_i es bs ck hb
     obtain⟨g1,ms,g2,g3,_⟩:=hR.hp.bl b _ hb
     obtain⟨m1,m2,m3⟩:=zY7 g3
     obtain⟨h1,_⟩:=hR.ev hx
     simp only[XV.den] at h1
     have hem:ms.isEmpty=es.isEmpty:=by
      cases es <;> simp[Array.isEmpty,m2]
     split at h
     ·rename_i u j hck hf
      have hckr:=zG w hck
      rw[←m1] at hf
      obtain⟨_,f2⟩:=zv6 (w:=w) hf
      obtain⟨e,e1,e2⟩:=f2 j rfl
      split at h
      ·rename_i p hp
       injection h with h
       subst h
       have hev:=(m3 j e p e1 hp).2
       refine⟨?_,zH6 (g1 p (List.mem_of_getElem? hp))⟩
       simp only[execOp,ho,h1,hR.evp hk,Instr.lookup,Sem.run_bind,zC hu,Result.andThen_ok,zF2 g2,Sem.run_pure,hem,hckr,e2,hev,zF5]
      ·cases h
     ·rename_i u hck hf
      have hckr:=zG w hck
      rw[←m1] at hf
      obtain⟨f1,_⟩:=zv6 (w:=w) hf
      split at h
      ·rename_i z hz
       injection h with h
       subst h
       have hzr:(zeroValue et).run P w = .ok z w:=by
        unfold zeroValue typeInfo
        cases hi:P.info? et with
        | none=>rw[hi] at hz;cases hz
        | some i=>rw[hi] at hz;simp only[Option.bind_some] at hz;simp[hi,hz]
       refine⟨?_,zH6 (zn2 _ _)⟩
       simp only[execOp,ho,h1,hR.evp hk,Instr.lookup,Sem.run_bind,zC hu,Result.andThen_ok,zF2 g2,Sem.run_pure,hem,hckr,f1,hzr,zF5,zA1]
      ·cases h
     ·cases h
    ·cases h
   ·cases h
  ·cases h
 ·rename_i x t ho
  split at h
  ·rename_i b k n c hx
   split at h
   ·rename_i q he
    injection h with h
    subst h
    have h1:=(hR.ev hx).1
    simp only[XV.den] at h1
    exact⟨by simp[execOp,ho,resolve,invoke,builtin,h1,XV.den,ze4 (zq (e:=q.1) (sz:=q.2) he).1],trivial⟩
   ·cases h
  ·rename_i b k n c hx
   split at h
   ·rename_i q he
    injection h with h
    subst h
    have h1:=(hR.ev hx).1
    simp only[XV.den] at h1
    exact⟨by simp[execOp,ho,resolve,invoke,builtin,h1,XV.den,ze4 (zq (e:=q.1) (sz:=q.2) he).1],trivial⟩
   ·cases h
  ·rename_i b k n c hx
   split at h
   ·rename_i q he
    injection h with h
    subst h
    have h1:=(hR.ev hx).1
    simp only[XV.den] at h1
    exact⟨by simp[execOp,ho,resolve,invoke,builtin,h1,XV.den,ze4 (zq (e:=q.1) (sz:=q.2) he).1],trivial⟩
   ·cases h
  ·rename_i b hx
   split at h
   ·rename_i kt et es bs ck hu hb
    injection h with h
    subst h
    obtain⟨g1,ms,g2,g3,_⟩:=hR.hp.bl b _ hb
    obtain⟨m1,m2,m3⟩:=zY7 g3
    have h1:=(hR.ev hx).1
    simp only[XV.den] at h1
    refine⟨?_,trivial⟩
    simp[execOp,ho,resolve,invoke,builtin,h1,XV.den,Builtin.len_,zC hu,zF2 g2,m2,goInt]
   ·cases h
  ·cases h
 ·rename_i x t ho
  split at h
  ·rename_i b k n c hx
   split at h
   ·rename_i q he
    injection h with h
    subst h
    have h1:=(hR.ev hx).1
    simp only[XV.den] at h1
    exact⟨by simp[execOp,ho,resolve,invoke,builtin,h1,XV.den,Builtin.cap_,zC (zq (e:=q.1) (sz:=q.2) he).1,goInt],trivial⟩
   ·cases h
  ·cases h
 ·rename_i t x y yt ho
  split at h
  ·rename_i u v' hx hy
   split at h
   ·rename_i f d hf hd
    split at h
    ·rename_i hfd
     injection h with h
     subst h
     obtain⟨_,e2,e3⟩:=zI6 (ρ:=ρ) (γ:=γ) (w:=w) hf hd hfd
     refine⟨?_,trivial⟩
     simp only[execOp,ho,(hR.evn hx).1,(hR.evn hy).1,Sem.run_bind,e2,Result.andThen_ok,e3 .eql _ (.inl ⟨rfl,rfl⟩),Sem.run_pure,XV.den]
    ·cases h
   ·cases h
  ·cases h
 ·rename_i t x y yt ho
  split at h
  ·rename_i u v' hx hy
   split at h
   ·rename_i f d hf hd
    split at h
    ·rename_i hfd
     injection h with h
     subst h
     obtain⟨_,e2,e3⟩:=zI6 (ρ:=ρ) (γ:=γ) (w:=w) hf hd hfd
     refine⟨?_,trivial⟩
     simp only[execOp,ho,(hR.evn hx).1,(hR.evn hy).1,Sem.run_bind,e2,Result.andThen_ok,e3 .neq _ (.inr ⟨rfl,rfl⟩),Sem.run_pure,XV.den]
    ·cases h
   ·cases h
  ·cases h
 ·rename_i t x ho
  split at h
  ·rename_i b j hx
   obtain⟨h1,h2⟩:=hR.ev hx
   obtain⟨h3,h4⟩:=zz8 hR.hp h
   refine⟨?_,h4⟩
   simp only[XV.den] at h1
   simp only[execOp,ho,h1,Sem.run_bind,h3,Result.andThen_ok,Sem.run_pure]
  ·cases h
 ·cases h
theorem zt6 {b:Nat} {m:Option Nat} {s l:Nat} {se:Array Nat} (h:w.heap[b]?=some (.mapIter m s se l)):(getObj b).run P w = .ok (.mapIter m s se l) w:=by
 unfold getObj
 simp[Sem.run,h]
def xentry (F:XFr) (H:XHp) (op:Op):Option XV:=match op with
 | .entry it=>(match xev F it with
  | some (.p b 0)=>(match H.get b with
   | some (.iter m _ [q] last)=>(match H.get m with
    | some (.map [p] [q'] ck)=>bif Nat.beq q q' && Nat.beq ck last then some (.t [xnorm p.1,p.2]) else none
    | _=>none)
   | _=>none)
  | _=>none)
 | _=>none
theorem zg10 {v:XV} (h:xentry F H o.op=some v) (hR:XR N w0 ρ γ F H a w):(execOp a.eval o).run P w = .ok (.value (v.den ρ γ)) w∧v.ok (H.has γ):=by
 unfold xentry at h
 split at h
 ·rename_i it ho
  split at h
  ·rename_i b hit
   split at h
   ·rename_i m since q last hb
    split at h
    ·rename_i p q' ck hm
     cases hc:(Nat.beq q q' && Nat.beq ck last) with
     | false=>rw[hc] at h;cases h
     | true=>
      rw[hc] at h
      injection h with h
      subst h
      simp only[Bool.and_eq_true] at hc
      obtain rfl:=Nat.eq_of_beq_eq_true hc.1
      obtain rfl:=Nat.eq_of_beq_eq_true hc.2
      obtain⟨q1,q2⟩:=hR.hp.bl b _ hb
      have q2':w.heap[ρ b]?=some (.mapIter (some (ρ m)) since #[q] ck):=q2
      obtain⟨g1,ms,g2,g3,g4⟩:=hR.hp.bl m _ hm
      obtain⟨h1,h2⟩:=hR.ev hit
      simp only[XV.den] at h1
      obtain⟨e,he⟩:∃e,ms=#[e]:=by
       have hl:ms.toList.length=1:=by have:=congrArg List.length g4;simpa using this
       match hms:ms.toList,hl with
       | [e],_=>exact⟨e,by rw[←Array.toArray_toList (xs:=ms),hms]⟩
      subst he
      simp only[List.map_cons,List.map_nil,List.cons.injEq,Prod.mk.injEq,and_true] at g3 g4
      obtain⟨k1,k2⟩:=g3
      have hp2:p.2.ok (H.has γ):=g1 p (by simp)
      refine⟨?_,zn2 _ _,hp2,trivial⟩
      simp only[execOp,ho,h1,Instr.entry,Sem.run_bind,zt6 q2',Result.andThen_ok,zF2 g2]
      simp[zF2 g2,g4,k1,k2,XV.den,XV.denL,zA1]
    ·cases h
   ·cases h
  ·cases h
 ·cases h
def xrd (P:Program) (F:XFr) (H:XHp) (o:Oper):Option XV:=match o.op with
 | .binOp op _ x y _=>(match xevp F x,xevp F y with
  | some (.int .i64 m),some (.int .i64 n)=>(match xint op m n with
   | some v=>some v
   | none=>(match xpure P F o.op with
    | some u=>some (xnorm u)
    | none=>none))
  | some _,some _=>(match xpure P F o.op with
   | some u=>some (xnorm u)
   | none=>none)
  | _,_=>xlook P F H o.op)
 | .move _=>xbuild P F o.op
 | .assign _=>xbuild P F o.op
 | .pick _ _ _=>xbuild P F o.op
 | .build _ _=>xbuild P F o.op
 | .makeFunc _ _ _=>xbuild P F o.op
 | .extract _ _=>xbuild P F o.op
 | .load _ _=>xlook P F H o.op
 | .entry _=>xentry F H o.op
 | .lookup _ _ _ _=>xlook P F H o.op
 | .field _ _ _=>xfield P F o.op
 | .fieldAddr _ _ _=>xaddr P F o.op
 | .indexAddr _ _ _=>xaddr P F o.op
 | .nilCheck _=>xaddr P F o.op
 | .index _ _ _=>(match xfield P F o.op with
  | some v=>some v
  | none=>(match xpure P F o.op with
   | some u=>some (xnorm u)
   | none=>none))
 | .slice _ _ _ _ _=>(match xslice P F o.op with
  | some v=>some v
  | none=>(match xpure P F o.op with
   | some u=>some (xnorm u)
   | none=>none))
 | .unOp _ _ _=>(match xpure P F o.op with
  | some u=>some (xnorm u)
  | none=>none)
 | .convert _ _ _=>(match xpure P F o.op with
  | some u=>some (xnorm u)
  | none=>none)
 | .call ⟨.builtin _,_,_⟩=>(match xlook P F H o.op with
  | some v=>some v
  | none=>(match xpure P F o.op with
   | some u=>some (xnorm u)
   | none=>none))
 | _=>none
theorem zf10 {v:XV} (h:xrd P F H o=some v) (hR:XR N w0 ρ γ F H a w):(execOp a.eval o).run P w = .ok (.value (v.den ρ γ)) w∧v.ok (H.has γ):=by
 have kp:∀{v:XV},(match xpure P F o.op with
     | some u=>some (xnorm u)
     | none=>none)=some v→(execOp a.eval o).run P w = .ok (.value (v.den ρ γ)) w∧v.ok (H.has γ):=fun {v} h=>by
  split at h
  ·rename_i u hu
   injection h with h
   subst h
   exact⟨by rw[zA1];exact xpure_ok hu hR,zn2 _ _⟩
  ·cases h
 unfold xrd at h
 split at h
 ·rename_i op t x y yt ho
  split at h
  ·rename_i m n hx hy
   split at h
   ·rename_i v' hv
    injection h with h
    subst h
    exact xint_ok hv ho (hR.evp hx) (hR.evp hy)
   ·exact kp h
  ·exact kp h
  ·exact zL4 h hR
 ·exact zH2 h hR
 ·exact zH2 h hR
 ·exact zH2 h hR
 ·exact zH2 h hR
 ·exact zH2 h hR
 ·exact zH2 h hR
 ·exact zL4 h hR
 ·exact zg10 h hR
 ·exact zL4 h hR
 ·exact zJ6 h hR
 ·exact zY5 h hR
 ·exact zY5 h hR
 ·exact zY5 h hR
 ·split at h
  ·rename_i v' hv;injection h with h;subst h;exact zJ6 hv hR
  ·exact kp h
 ·split at h
  ·rename_i v' hv;injection h with h;subst h;exact zd10 hv hR
  ·exact kp h
 ·exact kp h
 ·exact kp h
 ·split at h
  ·rename_i v' hv;injection h with h;subst h;exact zL4 hv hR
  ·exact kp h
 ·cases h
end
end
section
open Go Go.RowKit
set_option maxRecDepth 100000
def upd (f:Nat→Nat) (k v:Nat):Nat→Nat:=fun i=>if i=k then v else f i
theorem zE1 (f:Nat→Nat) (k v:Nat):upd f k v k=v:=by simp[upd]
theorem zD1 {f:Nat→Nat} {k v i:Nat} (h:i≠k):upd f k v i=f i:=by simp[upd,h]
def Agr (H:XHp) (ρ γ:Nat→Nat) (H':XHp) (ρ' γ':Nat→Nat):Prop:=∀b,(H.get b).isSome=true→(H'.get b).isSome=true∧ρ' b=ρ b∧γ' b=γ b
theorem Agr.refl (H:XHp) (ρ γ:Nat→Nat):Agr H ρ γ H ρ γ:=fun _ h=>⟨h,rfl,rfl⟩
theorem Agr.trans {H1 H2 H3:XHp} {r1 g1 r2 g2 r3 g3:Nat→Nat} (h:Agr H1 r1 g1 H2 r2 g2) (k:Agr H2 r2 g2 H3 r3 g3):Agr H1 r1 g1 H3 r3 g3:=fun b hb=>by
 obtain⟨a1,a2,a3⟩:=h b hb
 obtain⟨b1,b2,b3⟩:=k b a1
 exact⟨b1,b2.trans a2,b3.trans a3⟩
section
variable {P:Program} {N:Nat} {w0:XEnv} {ρ γ ρ' γ':Nat→Nat} {F:XFr} {H H':XHp} {a:Act} {w w':World} {o:Oper}
theorem Agr.ok (h:Agr H ρ γ H' ρ' γ') {x:XV} (hx:x.ok (H.has γ)):x.ok (H'.has γ'):=XV.ok_mono (fun b m hb=>⟨(h b hb.1).1,by rw[(h b hb.1).2.2];exact hb.2⟩) x hx
theorem Agr.den (h:Agr H ρ γ H' ρ' γ') {x:XV} (hx:x.ok (H.has γ)):x.den ρ' γ'=x.den ρ γ:=XV.den_same (A:=H.has γ) (fun b m hb=>(h b hb.1).2) x hx
theorem XR.agr (h:XR N w0 ρ γ F H a w) (hA:Agr H ρ γ H' ρ' γ') (hp:XH w0 ρ' γ' H' w'):XR N w0 ρ' γ' F H' a w':=
 ⟨h.df,h.sz,fun i x hx=>by
  obtain⟨h1,h2⟩:=h.fr i x hx
  exact⟨by rw[hA.den h2];exact h1,hA.ok h2⟩,hp⟩
theorem XB.ok_agr (h:Agr H ρ γ H' ρ' γ') {o:XB} (ho:o.ok (H.has γ)):o.ok (H'.has γ'):=by
 cases o with
 | cells e cs=>rw[XB.ok,XV.okL_iff] at ho ⊢;exact fun x hx=>h.ok (ho x hx)
 | grown e sz cs=>rw[XB.ok,XV.okL_iff] at ho ⊢;exact fun x hx=>h.ok (ho x hx)
 | map es bs ck=>exact fun p hp=>h.ok (ho p hp)
 | iter m s se l=>exact⟨(h m ho.1).1,Nat.zero_le _⟩
 | dead=>trivial
theorem XOwn.keep {B g:Nat} {o:XB} (h:XOwn w ρ γ B g o) (ho:o.ok (H.has γ)) (hA:Agr H ρ γ H' ρ' γ') (hB:w'.heap[B]?=w.heap[B]?):XOwn w' ρ' γ' B g o:=by
 cases o with
 | cells e cs=>
  rw[XB.ok,XV.okL_iff] at ho
  obtain⟨h1,h2⟩:=h
  refine⟨?_,fun x hx=>by rw[hA.den (ho x hx)];exact h2 x hx⟩
  rw[hB,h1,List.map_congr_left fun x hx=>(hA.den (ho x hx)).symm]
 | grown e sz cs=>
  rw[XB.ok,XV.okL_iff] at ho
  obtain⟨arr,h1,h2,h3,h4,h5⟩:=h
  refine⟨arr,by rw[hB];exact h1,h2,h3,h4,fun i x hx=>?_⟩
  rw[hA.den (ho x (List.mem_of_getElem? hx))]
  exact h5 i x hx
 | map es bs ck=>
  obtain⟨ms,h1,h2,h3⟩:=h
  refine⟨ms,by rw[hB];exact h1, ?_,h3⟩
  rw[h2]
  exact List.map_congr_left fun p hp=>by rw[hA.den (ho p hp)]
 | iter m s se l=>
  have h':w.heap[B]?=some (.mapIter (some (ρ m)) s se.toArray l):=h
  show w'.heap[B]?=_
  rw[hB,h',(hA m ho.1).2.1]
 | dead=>trivial
def xnew (H:XHp) (k:Nat) (o:XB):Option XHp:=match H.get k with
 | none=>bif Nat.blt k xcap then some (XT.set xdepth H k o) else none
 | some _=>none
theorem zS1 {k:Nat} {o:XB} (h:xnew H k o=some H'):H.get k=none∧∀i,H'.get i=if i=k then some o else H.get i:=by
 unfold xnew at h
 split at h
 ·rename_i hk
  cases hc:Nat.blt k xcap with
  | false=>rw[hc] at h;cases h
  | true=>
   rw[hc] at h
   injection h with h
   subst h
   rw[Nat.blt_eq] at hc
   exact⟨hk,fun i=>XT.get_set xdepth H k o i (by simp only[xcap,xdepth] at *;omega)⟩
 ·cases h
theorem zD3 {k:Nat} {o:XB} (h:xnew H k o=some H') (B g:Nat):Agr H ρ γ H' (upd ρ k B) (upd γ k g):=fun b hb=>by
 obtain⟨h1,h2⟩:=zS1 h
 have hne:b≠k:=fun e=>by rw[e,h1] at hb;cases hb
 exact⟨by rw[h2,if_neg hne];exact hb,zD1 hne,zD1 hne⟩
theorem XH.newAt (h:XH w0 ρ γ H w) {k B g:Nat} {o:XB} (hn:xnew H k o=some H') (hB:w0.w.heap.size≤B∧B < w'.heap.size) (hfr:∀i x,H.get i=some x→x.live=true→ρ i≠B) (hs:w.heap.size≤w'.heap.size) (hk:∀i x,H.get i=some x→x.live=true→w'.heap[ρ i]?=w.heap[ρ i]?) (hst:XBs w0 w') (hX:w0.X B=none)
    (ho:o.ok (H'.has (upd γ k g))) (how:XOwn w' (upd ρ k B) (upd γ k g) B g o):XH w0 (upd ρ k B) (upd γ k g) H' w':=by
 obtain⟨h1,h2⟩:=zS1 hn
 have hA:=zD3 (ρ:=ρ) (γ:=γ) hn B g
 have hcase:∀i x,H'.get i=some x→(i≠k∧H.get i=some x)∨(i=k∧x=o):=fun i x hi=>by
  rw[h2] at hi
  split at hi
  ·rename_i e;injection hi with hi;exact .inr ⟨e,hi.symm⟩
  ·rename_i e;exact .inl ⟨e,hi⟩
 refine⟨fun i j x y hx hy lx ly e=>?_,fun i x hx lx=>?_,fun i x hx lx=>?_,fun i x hx=>?_,hst⟩
 ·rcases hcase i x hx with⟨hi,g1⟩|⟨rfl,rfl⟩
  ·rcases hcase j y hy with⟨hj,g2⟩|⟨rfl,rfl⟩
   ·rw[zD1 hi,zD1 hj] at e
    exact h.nd i j x y g1 g2 lx ly e
   ·rw[zD1 hi,zE1] at e
    exact absurd e (hfr i x g1 lx)
  ·rcases hcase j y hy with⟨hj,g2⟩|⟨rfl,rfl⟩
   ·rw[zD1 hj,zE1] at e
    exact absurd e.symm (hfr j y g2 ly)
   ·rfl
 ·rcases hcase i x hx with⟨hi,g1⟩|⟨rfl,rfl⟩
  ·rw[zD1 hi]
   have:=h.hi i x g1 lx
   exact⟨this.1,by omega⟩
  ·rw[zE1];exact hB
 ·rcases hcase i x hx with⟨hi,g1⟩|⟨rfl,rfl⟩
  ·rw[zD1 hi];exact h.ap i x g1 lx
  ·rw[zE1];exact hX
 ·rcases hcase i x hx with⟨hi,g1⟩|⟨rfl,rfl⟩
  ·obtain⟨g2,g3⟩:=h.bl i x g1
   refine⟨XB.ok_agr hA g2, ?_⟩
   rw[zD1 hi,zD1 hi]
   cases hl:x.live with
   | false=>cases x <;> first|trivial|(cases hl)
   | true=>exact g3.keep g2 hA (hk i x g1 hl)
  ·rw[zE1,zE1]
   exact⟨ho,how⟩
theorem XH.new (h:XH w0 ρ γ H w) {k:Nat} {o:XB} {obj:Obj} (g:Nat) (hn:xnew H k o=some H') (ho:o.ok (H.has γ)) (how:XOwn (w.alloc obj) (upd ρ k w.heap.size) (upd γ k g) w.heap.size g o):XH w0 (upd ρ k w.heap.size) (upd γ k g) H' (w.alloc obj):=
 h.newAt hn ⟨h.st.size,by simp⟩ (fun i x hx lx e=>by have:=(h.hi i x hx lx).2;omega) (by simp) (fun i x hx lx=>Below.heap_alloc w obj _ (h.hi i x hx lx).2) (h.st.alloc _) h.st.new (XB.ok_agr (zD3 (ρ:=ρ) (γ:=γ) hn w.heap.size g) ho) how
theorem zH {B C:Nat} {ob:Obj}:(zp w B ob).heap[C]?=if C=B∧B < w.heap.size then some ob else w.heap[C]?:=by
 unfold zp
 simp only[Array.getElem?_setIfInBounds]
 by_cases h:B=C
 ·subst h
  by_cases hb:B < w.heap.size
  ·simp[hb]
  ·simp[hb]
 ·simp[h,Ne.symm h]
def xset (H:XHp) (b:Nat) (o:XB):Option XHp:=match H.get b with
 | some _=>bif Nat.blt b xcap then some (XT.set xdepth H b o) else none
 | none=>none
theorem zF3 {b:Nat} {o:XB} (h:xset H b o=some H'):(H.get b).isSome=true∧∀i,H'.get i=if i=b then some o else H.get i:=by
 unfold xset at h
 split at h
 ·rename_i x hk
  cases hc:Nat.blt b xcap with
  | false=>rw[hc] at h;cases h
  | true=>
   rw[hc] at h
   injection h with h
   subst h
   rw[Nat.blt_eq] at hc
   exact⟨by rw[hk];rfl,fun i=>XT.get_set xdepth H b o i (by simp only[xcap,xdepth] at *;omega)⟩
 ·cases h
theorem zq1 {b:Nat} {o:XB} (h:xset H b o=some H'):Agr H ρ γ H' ρ γ:=fun c hc=>by
 obtain⟨h1,h2⟩:=zF3 h
 refine⟨?_,rfl,rfl⟩
 rw[h2]
 split
 ·rfl
 ·exact hc
theorem XH.set {b:Nat} {x y:XB} (h:XH w0 ρ γ H w) (hb:H.get b=some x) (hx:x.live=true∨y.live=false) (hn:xset H b y=some H') (ho:y.ok (H.has γ)) (hs:w'.heap.size=w.heap.size) (hk:∀C,C < w.heap.size→(x.live=true→C≠ρ b)→w'.heap[C]?=w.heap[C]?) (hst:XBs w0 w') (how:XOwn w' ρ γ (ρ b) (γ b) y):XH w0 ρ γ H' w':=by
 obtain⟨h1,h2⟩:=zF3 hn
 have hA:=zq1 (ρ:=ρ) (γ:=γ) hn
 have hcase:∀i z,H'.get i=some z→(i=b∧z=y)∨(i≠b∧H.get i=some z):=fun i z hi=>by
  rw[h2] at hi
  split at hi
  ·rename_i e;injection hi with hi;exact .inl ⟨e,hi.symm⟩
  ·rename_i e;exact .inr ⟨e,hi⟩
 have hlive:y.live=true→x.live=true:=fun hy=>hx.resolve_right (by rw[hy];simp)
 refine⟨fun i j z z' hz hz' lz lz' e=>?_,fun i z hz lz=>?_,fun i z hz lz=>?_,fun i z hz=>?_,hst⟩
 ·rcases hcase i z hz with⟨rfl,rfl⟩|⟨hi,g1⟩
  ·rcases hcase j z' hz' with⟨rfl,rfl⟩|⟨hj,g2⟩
   ·rfl
   ·exact h.nd i j x z' hb g2 (hlive lz) lz' e
  ·rcases hcase j z' hz' with⟨rfl,rfl⟩|⟨hj,g2⟩
   ·exact h.nd i j z x g1 hb lz (hlive lz') e
   ·exact h.nd i j z z' g1 g2 lz lz' e
 ·rw[hs]
  rcases hcase i z hz with⟨rfl,rfl⟩|⟨hi,g1⟩
  ·exact h.hi i x hb (hlive lz)
  ·exact h.hi i z g1 lz
 ·rcases hcase i z hz with⟨rfl,rfl⟩|⟨hi,g1⟩
  ·exact h.ap i x hb (hlive lz)
  ·exact h.ap i z g1 lz
 ·rcases hcase i z hz with⟨rfl,rfl⟩|⟨hi,g1⟩
  ·exact⟨XB.ok_agr hA ho,how⟩
  ·obtain⟨g2,g3⟩:=h.bl i z g1
   refine⟨XB.ok_agr hA g2, ?_⟩
   cases hl:z.live with
   | false=>cases z <;> first|trivial|(cases hl)
   | true=>exact g3.keep g2 hA (hk _ (h.hi i z g1 hl).2 (fun hxl e=>hi (h.nd i b z x g1 hb hl hxl e)))
theorem XH.put {b:Nat} {x y:XB} {ob:Obj} (h:XH w0 ρ γ H w) (hb:H.get b=some x) (hx:x.live=true) (hn:xset H b y=some H') (ho:y.ok (H.has γ)) (how:XOwn (zp w (ρ b) ob) ρ γ (ρ b) (γ b) y):XH w0 ρ γ H' (zp w (ρ b) ob):=by
 have hlo:=(h.hi b x hb hx).1
 refine h.set hb (.inl hx) hn ho (by simp[zp]) (fun C _ hC=>?_) ?_ how
 ·rw[zH,if_neg (fun e=>hC hx e.1)]
 ·have hst:=h.st
  refine⟨⟨hst.os,hst.tape,hst.output,by simpa [zp] using hst.size,fun i hi hn=>?_,hst.drawn⟩,fun B ob hB=>?_⟩
  ·rw[zH,if_neg (by rintro⟨e,_⟩;omega)]
   exact hst.block i hi hn
  ·rw[zH,if_neg (by rintro⟨e,_⟩;rw[e,h.ap b x hb hx] at hB;cases hB)]
   exact hst.fx B ob hB
def XPost (N:Nat) (w0:XEnv) (ρ γ:Nat→Nat) (H:XHp) (F2:XFr) (H2:XHp):Act→World→Prop:=fun a' w'=>∃ρ' γ',XR N w0 ρ' γ' F2 H2 a' w'∧Agr H ρ γ H2 ρ' γ'
theorem XPost.trans {F1 F2:XFr} {H1 H2:XHp} {Q:Act→World→Prop} (h:XPost N w0 ρ γ H F1 H1 a w) (k:∀ρ1 γ1,XR N w0 ρ1 γ1 F1 H1 a w→Agr H ρ γ H1 ρ1 γ1→Q a w):Q a w:=by
 obtain⟨ρ1,γ1,h1,h2⟩:=h
 exact k ρ1 γ1 h1 h2
def XE (P:Program) (N:Nat) (o:Oper) (F:XFr) (H:XHp) (F2:XFr) (H2:XHp):Prop:=∀w0 ρ γ a w,XR N w0 ρ γ F H a w→effO P o a w (XPost N w0 ρ γ H F2 H2)
end
end
end Go.Proofs.YtophoepbedlhjaaGreatDoor
