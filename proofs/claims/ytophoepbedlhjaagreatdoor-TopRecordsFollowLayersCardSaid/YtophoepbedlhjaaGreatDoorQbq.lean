/- Closed calls: stores into cells, entries of maps. Conditions: none. -/
import Derived.Test.YtophoepbedlhjaaGreatDoorQbp
set_option linter.unusedSimpArgs false
set_option linter.unusedVariables false
namespace Go.Proofs.YtophoepbedlhjaaGreatDoor
section
open Go Go.RowKit
set_option maxRecDepth 100000
section
variable {P:Program} {N:Nat} {w0:XEnv} {ρ γ:Nat→Nat} {F F':XFr} {H H':XHp} {a:Act} {w:World} {o:Oper}
theorem zB8 {d k:Nat} {e:TypeId} {cs:List XV} {v:XV} (hd:o.dst=some d) (hF:xput N F d v=some F') (hn:xnew H k (.cells e cs)=some H') (hv:(∃n c,v = .sl k 0 n c)∨v = .p k 0)
    (hrun:∀w0 ρ γ a w,XR N w0 ρ γ F H a w→(∀x∈cs,(x.den ρ γ).oneCell'=true∧x.ok (H.has γ))∧(execOp a.eval o).run P w = .ok (.value (v.den (upd ρ k w.heap.size) γ)) (w.alloc (.cells (cs.map (XV.den ρ γ)).toArray e))):XE P N o F H F' H':=fun w0 ρ γ a w hR=>by
 obtain⟨h1,h2⟩:=hrun w0 ρ γ a w hR
 have hA:=zD3 (ρ:=ρ) (γ:=γ) hn w.heap.size 0
 have hnew:=hR.hp.new (obj:=.cells (cs.map (XV.den ρ γ)).toArray e) 0 hn (by rw[XB.ok,XV.okL_iff];exact fun x hx=>(h1 x hx).2) ⟨by rw[zq2,List.map_congr_left fun x hx=>(hA.den (h1 x hx).2).symm],fun x hx=>by rw[hA.den (h1 x hx).2];exact(h1 x hx).1⟩
 unfold effO
 rw[h2]
 refine⟨upd ρ k w.heap.size,upd γ k 0, ?_,hA⟩
 rw[hd]
 have hhas:(H'.get k).isSome=true:=by rw[(zS1 hn).2,if_pos rfl];rfl
 have hok:v.ok (H'.has (upd γ k 0)):=by
  rcases hv with⟨n,c,rfl⟩|rfl
  ·exact⟨hhas,Nat.zero_le _⟩
  ·exact⟨hhas,Nat.zero_le _⟩
 have:=(hR.agr hA hnew).put hF hok
 have he:v.den (upd ρ k w.heap.size) (upd γ k 0)=v.den (upd ρ k w.heap.size) γ:=by
  rcases hv with⟨n,c,rfl⟩|rfl <;> rfl
 rw[he] at this
 exact this
def xalloc (P:Program) (N:Nat) (F:XFr) (H:XHp) (k:Nat) (o:Oper):Option (XFr × XHp):=match o.dst with
 | none=>none
 | some d=>match o.op with
  | .alloc t=>(match xzero P t with
   | some l=>(match xput N F d (.p k 0),xnew H k (.cells t l) with
    | some F',some H'=>some (F',H')
    | _,_=>none)
   | none=>none)
  | .box t x=>(match xevn F x with
   | some v=>bif (xcl v).all XV.one then (match xput N F d (.p k 0),xnew H k (.cells t (xcl v)) with
    | some F',some H'=>some (F',H')
    | _,_=>none) else none
   | none=>none)
  | .buildSlice t n ps=>(match elemSz P t with
   | some (e,sz)=>(match xzero P e with
    | some z=>bif Nat.ble (n*sz) 16777216 && Nat.beq z.length sz then (match xfill F (fun i=>some (i*sz,sz)) ps.toList (List.replicate n z).flatten with
     | some l=>(match xput N F d (.sl k 0 n n),xnew H k (.cells e l) with
      | some F',some H'=>some (F',H')
      | _,_=>none)
     | none=>none) else none
    | none=>none)
   | none=>none)
  | .makeSlice t x y=>(match elemSz P t,xevp F x,xevp F y with
   | some (e,sz),some (.int _ (.ofNat l)),some (.int _ (.ofNat c))=>(match (P.info? e).map (·.bytes),xzero P e with
    | some by_,some z=>bif Nat.ble l c && Nat.ble c 1000000 && Nat.ble by_ 1000 && Nat.beq z.length sz then (match xput N F d (.sl k 0 l c),xnew H k (.cells e (List.replicate c z).flatten) with
     | some F',some H'=>some (F',H')
     | _,_=>none) else none
    | _,_=>none)
   | _,_,_=>none)
  | .makeMap t none=>(match xput N F d (.m k),xnew H k (.map [] [] 0) with
   | some F',some H'=>some (F',H')
   | _,_=>none)
  | _=>none
theorem zf9 {α:Type} [Inhabited α] {z:List α} {sz:Nat} (hz:z.length=sz):∀n:Nat,((Array.range (n*sz)).map fun i=>z.toArray[i % sz]!)=(List.replicate n z).flatten.toArray:=fun n=>by
 refine Array.ext_getElem? fun i=>?_
 have hl:(List.replicate n z).flatten.length=n*sz:=by simp[hz]
 rcases Nat.lt_or_ge i (n*sz) with hi|hi
 ·have hsz:0 < sz:=by
   rcases Nat.eq_zero_or_pos sz with h|h
   ·subst h;simp at hi
   ·exact h
  have hm:i % sz < sz:=Nat.mod_lt _ hsz
  have key:∀(n i:Nat),i < n*sz→(List.replicate n z).flatten[i]?=z[i % sz]?:=by
   intro n
   induction n with
   | zero=>intro i hi;simp at hi
   | succ n ih=>
    intro i hi
    rw[List.replicate_succ,List.flatten_cons]
    rcases Nat.lt_or_ge i sz with h|h
    ·rw[List.getElem?_append_left (by omega),Nat.mod_eq_of_lt h]
    ·rw[List.getElem?_append_right (by omega),hz,ih (i - sz) (by rw[Nat.succ_mul] at hi;omega)]
     rw[Nat.mod_eq_sub_mod h]
  rw[Array.getElem?_map,Array.getElem?_range,if_pos hi,Option.map_some]
  have hq:(List.replicate n z).flatten.toArray[i]?=z[i % sz]?:=by rw[List.getElem?_toArray];exact key n i hi
  rw[hq]
  have hl2:i % sz < z.length:=by omega
  simp[hl2]
 ·rw[Array.getElem?_eq_none (by simpa using hi),Array.getElem?_eq_none (by rw[List.size_toArray,hl];exact hi)]
theorem zv11 {z:List XV} {n:Nat} {ρ γ:Nat→Nat}:((List.replicate n z).flatten.map (XV.den ρ γ))=(List.replicate n (z.map (XV.den ρ γ))).flatten:=by
 rw[List.map_flatten,List.map_replicate]
theorem zo6 {α:Type} {z:List α} {n:Nat} {x:α} (h:x∈(List.replicate n z).flatten):x∈z:=by
 obtain⟨l,h1,h2⟩:=List.mem_flatten.1 h
 rw[(List.mem_replicate.1 h1).2] at h2
 exact h2
theorem xe_map {d k:Nat} (hd:o.dst=some d) (hF:xput N F d (.m k)=some F') (hn:xnew H k (.map [] [] 0)=some H') {t:TypeId} (ho:o.op = .makeMap t none):XE P N o F H F' H':=fun w0 ρ γ a w hR=>by
 have hA:=zD3 (ρ:=ρ) (γ:=γ) hn w.heap.size 0
 have hnew:=hR.hp.new (obj:=.map #[] 0) 0 hn (by intro p hp;cases hp) ⟨#[],heap_alloc_new _ _,rfl,rfl⟩
 unfold effO
 have hex:(execOp a.eval o).run P w = .ok (.value (.map (some w.heap.size))) (w.alloc (.map #[] 0)):=by
  simp only[execOp,ho,Instr.makeMap,Option.map_none,Sem.run_bind,Sem.run_pure,Result.andThen_ok,run_newObj,World.alloc_eq]
 rw[hex]
 refine⟨upd ρ k w.heap.size,upd γ k 0, ?_,hA⟩
 rw[hd]
 have hhas:(H'.get k).isSome=true:=by rw[(zS1 hn).2,if_pos rfl];rfl
 have:=(hR.agr hA hnew).put (x:=.m k) hF ⟨hhas,Nat.zero_le _⟩
 rw[show (XV.m k).den (upd ρ k w.heap.size) (upd γ k 0) = .map (some w.heap.size) from by rw[XV.den,zE1]] at this
 exact this
theorem zi10 {k:Nat} (h:xalloc P N F H k o=some (F',H')):XE P N o F H F' H':=by
 unfold xalloc at h
 split at h
 ·cases h
 ·rename_i d hd
  split at h
  ·rename_i t ho
   split at h
   ·rename_i l hl
    split at h
    ·rename_i F1 H1 hF hn
     simp only[Option.some.injEq,Prod.mk.injEq] at h
     obtain⟨rfl,rfl⟩:=h
     refine zB8 hd hF hn (.inr rfl) fun w0 ρ γ a w hR=>?_
     obtain⟨z,h1,h2,h3,h4,_⟩:=zE3 (w:=w) (ρ:=ρ) (γ:=γ) (H:=H) hl
     refine⟨fun x hx=>⟨h4 x hx,h3 x hx⟩, ?_⟩
     simp only[execOp,ho,Instr.alloc,Sem.run_bind,h1,Result.andThen_ok,newVar,newRow,run_newObj,World.alloc_eq,Sem.run_pure,XV.den,zE1,h2]
    ·cases h
   ·cases h
  ·rename_i t x ho
   split at h
   ·rename_i v hv
    cases hc:(xcl v).all XV.one with
    | false=>rw[hc] at h;cases h
    | true=>
     rw[hc] at h
     simp only[cond_true] at h
     split at h
     ·rename_i F1 H1 hF hn
      simp only[Option.some.injEq,Prod.mk.injEq] at h
      obtain⟨rfl,rfl⟩:=h
      refine zB8 hd hF hn (.inr rfl) fun w0 ρ γ a w hR=>?_
      obtain⟨g1,g2⟩:=hR.evn hv
      obtain⟨h1,h2⟩:=zX5 (ρ:=ρ) (γ:=γ) hc
      refine⟨fun x hx=>⟨h2 x hx,zh10 g2 x hx⟩, ?_⟩
      simp only[execOp,ho,Instr.box,Sem.run_bind,Result.andThen_ok,newVar,newRow,run_newObj,World.alloc_eq,Sem.run_pure,XV.den,zE1,g1,h1]
     ·cases h
   ·cases h
  ·rename_i t n ps ho
   split at h
   ·rename_i e sz he
    split at h
    ·rename_i z hz
     cases hc:(Nat.ble (n*sz) 16777216 && Nat.beq z.length sz) with
     | false=>rw[hc] at h;cases h
     | true=>
      rw[hc] at h
      simp only[cond_true] at h
      simp only[Bool.and_eq_true,Nat.ble_eq] at hc
      obtain⟨hc1,hc2⟩:=hc
      replace hc2:=Nat.eq_of_beq_eq_true hc2
      split at h
      ·rename_i l hl
       split at h
       ·rename_i F1 H1 hF hn
        simp only[Option.some.injEq,Prod.mk.injEq] at h
        obtain⟨rfl,rfl⟩:=h
        refine zB8 hd hF hn (.inl ⟨n,n,rfl⟩) fun w0 ρ γ a w hR=>?_
        obtain⟨hu,hs⟩:=zA3 he
        obtain⟨zv,h1,h2,h3,h4,_⟩:=zE3 (w:=w) (ρ:=ρ) (γ:=γ) (H:=H) hz
        obtain⟨f1,f2,f3,_⟩:=zG3 hR hl (fun x hx=>h3 x (zo6 hx)) (fun x hx=>h4 x (zo6 hx))
        refine⟨fun x hx=>⟨f3 x hx,f2 x hx⟩, ?_⟩
        have hps:(ps.map fun(i,x)=>(i,a.eval x)).toList=ps.toList.map fun x=>(x.1,a.eval x.2):=by simp
        have hrep:((Array.range (n*sz)).map fun i=>zv.cells[i % zv.cells.size]!)=((List.replicate n z).flatten.map (XV.den ρ γ)).toArray:=by
         rw[zv11,h2,←zf9 (z:=z.map (XV.den ρ γ)) (sz:=sz) (by simpa using hc2) n]
         simp[hc2]
        have hlim:¬(n*sz > 2 ^ 24):=by omega
        by_cases hz0:n*sz=0
        ·have hrep0:((Array.range (n*sz)).map fun i=>(#[]:Array Value)[i % (#[]:Array Value).size]!)=((List.replicate n z).flatten.map (XV.den ρ γ)).toArray:=by
          rw[←hrep,hz0];simp
         simp only[execOp,ho,Instr.buildSlice,Sem.run_bind,zC hu,Result.andThen_ok,zx1 hs,hlim,if_false,if_pos hz0,Sem.run_pure,hps,hrep0,f1,newRow,run_newObj,World.alloc_eq,XV.den,zE1]
        ·simp only[execOp,ho,Instr.buildSlice,Sem.run_bind,zC hu,Result.andThen_ok,zx1 hs,hlim,if_false,if_neg hz0,h1,Sem.run_pure,hps,hrep,f1,newRow,run_newObj,World.alloc_eq,XV.den,zE1]
       ·cases h
      ·cases h
    ·cases h
   ·cases h
  ·rename_i t x y ho
   split at h
   ·rename_i e sz kx l ky c he hx hy
    split at h
    ·rename_i by_ z hby hz
     cases hc:(Nat.ble l c && Nat.ble c 1000000 && Nat.ble by_ 1000 && Nat.beq z.length sz) with
     | false=>rw[hc] at h;cases h
     | true=>
      rw[hc] at h
      simp only[cond_true] at h
      simp only[Bool.and_eq_true,Nat.ble_eq] at hc
      obtain⟨⟨⟨hc1,hc2⟩,hc3⟩,hc4⟩:=hc
      replace hc4:=Nat.eq_of_beq_eq_true hc4
      split at h
      ·rename_i F1 H1 hF hn
       simp only[Option.some.injEq,Prod.mk.injEq] at h
       obtain⟨rfl,rfl⟩:=h
       refine zB8 hd hF hn (.inl ⟨l,c,rfl⟩) fun w0 ρ γ a w hR=>?_
       obtain⟨hu,i,hinf,hs⟩:=zq he
       obtain⟨zv,h1,h2,h3,h4,h5⟩:=zE3 (w:=w) (ρ:=ρ) (γ:=γ) (H:=H) hz
       refine⟨fun x hx=>⟨h4 x (zo6 hx),h3 x (zo6 hx)⟩, ?_⟩
       rw[hinf] at h5 hby
       simp only[Option.bind_some,Option.map_some,Option.some.injEq] at h5 hby
       have hbc:i.bytes*c≤1000*1000000:=by rw[hby];exact Nat.mul_le_mul hc3 hc2
       have hrun:=run_make (P:=P) w t e i zv hu hinf h5 kx ky l c (by omega) (by omega) (by rw[←Int.natCast_mul];omega) (by omega)
       have hrep:madeCells zv.cells (c*sz)=((List.replicate c z).flatten.map (XV.den ρ γ)).toArray:=by
        rw[zv11,h2,←zf9 (z:=z.map (XV.den ρ γ)) (sz:=sz) (by simpa using hc4) c]
        simp[madeCells,hc4]
       have e1:=hR.evp hx
       have e2:=hR.evp hy
       rw[Int.ofNat_eq_natCast] at e1 e2
       simp only[execOp,ho,e1,e2,Sem.run_bind,hrun,Result.andThen_ok,Sem.run_pure,Int.toNat_natCast,hs,hrep,XV.den,zE1]
      ·cases h
    ·cases h
   ·cases h
  ·rename_i t ho
   split at h
   ·rename_i F1 H1 hF hn
    simp only[Option.some.injEq,Prod.mk.injEq] at h
    obtain⟨rfl,rfl⟩:=h
    exact xe_map hd hF hn ho
   ·cases h
  ·cases h
end
end
section
open Go Go.RowKit
set_option maxRecDepth 100000
def xpart2 (o:XB) (j:Nat) (xs:List XV):Option XB:=match o with
 | .cells e l=>bif Nat.ble (j+xs.length) l.length then some (.cells e (putL l j xs)) else none
 | .grown e sz l=>bif Nat.ble (j+xs.length) l.length then some (.grown e sz (putL l j xs)) else none
 | _=>none
def setAt {α:Type}:List α→Nat→α→List α
 | [],_,_=>[]
 | _ :: l,0,y=>y :: l
 | x :: l,i+1,y=>x :: setAt l i y
def xsame (a b:Value):Bool:=Instr.sameBits 10000 a b
def xstore (P:Program) (F:XFr) (H:XHp) (o:Oper):Option XHp:=match o.dst with
 | some _=>none
 | none=>match o.op with
  | .store t x y=>(match xev F x,xevn F y with
   | some (.p b j),some v=>(match H.get b,(P.info? t).map (·.size) with
    | some ob,some n=>bif Nat.beq (xcl v).length n && (xcl v).all XV.one then (match xpart2 ob j (xcl v) with
     | some ob'=>xset H b ob'
     | none=>none) else none
    | _,_=>none)
   | _,_=>none)
  | .mapUpdate t m k y=>(match P.underlying t,xev F m,xevp F k,xevn F y with
   | some (.map kt _),some (.m b),some kv,some v=>(match H.get b with
    | some (.map es bs ck)=>(match semPure P (Instr.checkKey false 10000 kt kv),xfindIx P kt kv (es.map Prod.fst) with
     | some _,some (some j)=>(match es[j]? with
      | some p=>bif xsame p.1 kv then xset H b (.map (setAt es j (kv,v)) bs ck) else none
      | none=>none)
     | some _,some none=>xset H b (.map (es++[(kv,v)]) (bs++[ck]) (ck+1))
     | _,_=>none)
    | _=>none)
   | _,_,_,_=>none)
  | _=>none
section
variable {P:Program} {N:Nat} {w0:XEnv} {ρ γ:Nat→Nat} {F F':XFr} {H H':XHp} {a:Act} {w:World} {o:Oper}
theorem zE5 {b j:Nat} {x y:XB} {xs:List XV} (h:XH w0 ρ γ H w) (hb:H.get b=some x) (hp:xpart2 x j xs=some y) (hok:∀z∈xs,z.ok (H.has γ)) (h1:∀z∈xs,(z.den ρ γ).oneCell'=true) :
    ∃ob,(storeCells ⟨ρ b,j,none⟩ (xs.map (XV.den ρ γ))).run P w = .ok () (zp w (ρ b) ob)∧x.live=true∧y.ok (H.has γ)∧XOwn (zp w (ρ b) ob) ρ γ (ρ b) (γ b) y:=by
 obtain⟨hlt,how⟩:=h.bl b _ hb
 unfold xpart2 at hp
 split at hp
 ·rename_i e l
  cases hc:Nat.ble (j+xs.length) l.length with
  | false=>rw[hc] at hp;cases hp
  | true=>
   rw[hc] at hp
   injection hp with hp
   subst hp
   rw[Nat.ble_eq] at hc
   obtain⟨hh,hb1⟩:=how
   have hrun:=zL (P:=P) (off:=j) (xs.map (XV.den ρ γ)) 0 w _ hh (by simp;omega) (fun u hu=>by
    obtain⟨x,hx,rfl⟩:=List.mem_map.1 hu
    exact h1 x hx)
   rw[Nat.add_zero,zc5 (by omega)] at hrun
   rw[XB.ok,XV.okL_iff] at hlt
   refine⟨_,hrun,rfl, ?_, ?_,fun z hz=>?_⟩
   ·rw[XB.ok,XV.okL_iff]
    intro z hz
    exact(zO3 hz).elim (hlt z) (hok z)
   ·rw[zH,if_pos ⟨rfl,(h.hi b _ hb rfl).2⟩]
   ·exact(zO3 hz).elim (hb1 z) (h1 z)
 ·rename_i e sz l
  cases hc:Nat.ble (j+xs.length) l.length with
  | false=>rw[hc] at hp;cases hp
  | true=>
   rw[hc] at hp
   injection hp with hp
   subst hp
   rw[Nat.ble_eq] at hc
   obtain⟨arr,hh,hsz,hmax,hle,hb1⟩:=how
   have hrun:=zL (P:=P) (off:=j) (xs.map (XV.den ρ γ)) 0 w _ hh (by simp;omega) (fun u hu=>by
    obtain⟨x,hx,rfl⟩:=List.mem_map.1 hu
    exact h1 x hx)
   rw[Nat.add_zero] at hrun
   rw[XB.ok,XV.okL_iff] at hlt
   refine⟨_,hrun,rfl, ?_,_,by rw[zH,if_pos ⟨rfl,(h.hi b _ hb rfl).2⟩],by rw[zk1 0];exact hsz,hmax,by rw[zk1 0,zm6 (by omega)];exact hle,fun i z hz=>?_⟩
   ·rw[XB.ok,XV.okL_iff]
    intro z hz
    exact(zO3 hz).elim (hlt z) (hok z)
   ·rw[zU2 (by omega)] at hz
    rw[zU _ _ _ _ (by simp;omega)]
    simp only[List.length_map]
    by_cases hc:j≤i∧i < j+xs.length
    ·rw[if_pos hc] at hz ⊢
     rw[List.getElem?_map,hz]
     exact⟨rfl,h1 z (List.mem_of_getElem? hz)⟩
    ·rw[if_neg hc] at hz ⊢
     exact hb1 i z hz
 ·cases hp
theorem zb5 {α:Type} {y:α}:∀{l:List α} {i k:Nat},(setAt l i y)[k]?=if k=i∧i < l.length then some y else l[k]?
 | [],i,k=>by simp[setAt]
 | x :: l,0,k=>by
  cases k with
  | zero=>simp[setAt]
  | succ k=>simp[setAt]
 | x :: l,i+1,k=>by
  cases k with
  | zero=>simp[setAt]
  | succ k=>simp[setAt,zb5 (l:=l)]
theorem zu10 {α:Type} {x y:α} {l:List α} {i:Nat} (h:x∈setAt l i y):x=y∨x∈l:=by
 obtain⟨k,hk⟩:=List.getElem?_of_mem h
 rw[zb5] at hk
 split at hk
 ·injection hk with hk;exact .inl hk.symm
 ·exact .inr (List.mem_of_getElem? hk)
theorem zP10 {B:Nat} {ob:Obj} {ms:Array MapEntry} {ck:Nat} (h:w.heap[B]?=some (.map ms ck)):(setObj B ob).run P w = .ok () (zp w B ob):=by
 unfold setObj
 simp[Sem.run,h,zp]
theorem zZ10 {b:Nat} {es es':List (Value × XV)} {bs bs':List Nat} {ck ck':Nat} {ms':Array MapEntry} (hR:XH w0 ρ γ H w) (hb:H.get b=some (.map es bs ck)) (hn:xset H b (.map es' bs' ck')=some H') (hok:∀p∈es',p.2.ok (H.has γ)) (hm:ms'.toList.map (fun m=>(m.key,m.val))=es'.map fun p=>(p.1,p.2.den ρ γ)) (hbs:ms'.toList.map (·.born)=bs'):XH w0 ρ γ H' (zp w (ρ b) (.map ms' ck')):=
 hR.put hb rfl hn hok ⟨ms',by rw[zH,if_pos ⟨rfl,(hR.hi b _ hb rfl).2⟩],hm,hbs⟩
theorem zG6 (h:xstore P F H o=some H'):XE P N o F H F H':=fun w0 ρ γ a w hR=>by
 unfold xstore at h
 split at h
 ·cases h
 ·rename_i hd
  split at h
  ·rename_i t x y ho
   split at h
   ·rename_i b j v hx hy
    split at h
    ·rename_i ob n hb hsz
     cases hc:(Nat.beq (xcl v).length n && (xcl v).all XV.one) with
     | false=>rw[hc] at h;cases h
     | true=>
      rw[hc] at h
      simp only[cond_true] at h
      simp only[Bool.and_eq_true] at hc
      obtain⟨hc1,hc2⟩:=hc
      replace hc1:=Nat.eq_of_beq_eq_true hc1
      split at h
      ·rename_i ob' hp
       obtain⟨g1,_⟩:=hR.ev hx
       obtain⟨g3,g4⟩:=hR.evn hy
       simp only[XV.den] at g1
       obtain⟨e1,e2⟩:=zX5 (ρ:=ρ) (γ:=γ) hc2
       obtain⟨q,q1,q2,q3,q4⟩:=zE5 (P:=P) hR.hp hb hp (zh10 g4) e2
       have hset:=hR.hp.put hb q2 h q3 q4
       unfold effO
       have hex:(execOp a.eval o).run P w = .ok .skip (zp w (ρ b) q):=by
        simp only[execOp,ho,g1,g3,Instr.storeAt,Instr.sureAddr,storeVar,Sem.run_bind,Sem.run_pure,Result.andThen_ok,zx1 hsz,e1,List.size_toArray,List.length_map,hc1,ne_eq,not_true_eq_false,if_false]
        rw[q1]
        rfl
       rw[hex]
       refine⟨ρ,γ, ?_,zq1 h⟩
       rw[hd]
       exact hR.agr (zq1 h) hset
      ·cases h
    ·cases h
   ·cases h
  ·rename_i t m k y ho
   split at h
   ·rename_i kt et b kv v hu hm hk hy
    split at h
    ·rename_i es bs ck hb
     obtain⟨g1,ms,g2,g3,g4⟩:=hR.hp.bl b _ hb
     obtain⟨m1,m2,m3⟩:=zY7 g3
     obtain⟨hm1,_⟩:=hR.ev hm
     simp only[XV.den] at hm1
     obtain⟨hy1,hy2⟩:=hR.evn hy
     split at h
     ·rename_i u j hck hf
      have hckr:=zG w hck
      rw[←m1] at hf
      obtain⟨_,f2⟩:=zv6 (w:=w) hf
      obtain⟨e,e1,e2⟩:=f2 j rfl
      split at h
      ·rename_i p hp
       cases hs:xsame p.1 kv with
       | false=>rw[hs] at h;cases h
       | true=>
        rw[hs] at h
        simp only[cond_true] at h
        have hkey:=(m3 j e p e1 hp).1
        have hst:(Instr.keyThatStays (((ms[j]?).map (·.key)).getD kv) kv).run P w = .ok kv w:=by
         rw[←Array.getElem?_toList,e1,Option.map_some,Option.getD_some,hkey]
         unfold Instr.keyThatStays
         unfold xsame at hs
         rw[if_pos hs]
         rfl
        have hset:=zZ10 (ms':=ms.modify j fun e=>{ e with key:=kv,val:=v.den ρ γ }) hR.hp hb h (fun p hp=>by
         rcases zu10 hp with rfl|hp
         ·exact hy2
         ·exact g1 p hp) (by
         refine List.ext_getElem? fun i=>?_
         have hg3:=congrArg (fun l:List (Value × Value)=>l[i]?) g3
         simp only[List.getElem?_map,Array.getElem?_toList] at hg3
         simp only[List.getElem?_map,Array.getElem?_toList,Array.getElem?_modify,zb5]
         have hjl:j < es.length:=(List.getElem?_eq_some_iff.1 hp).1
         by_cases hij:j=i
         ·subst hij
          rw[if_pos rfl,if_pos ⟨rfl,hjl⟩]
          rw[Array.getElem?_toList] at e1
          rw[e1]
          rfl
         ·rw[if_neg hij,if_neg (fun e=>hij e.1.symm)]
          exact hg3) (by
         rw[←g4]
         refine List.ext_getElem? fun i=>?_
         simp only[List.getElem?_map,Array.getElem?_toList,Array.getElem?_modify]
         by_cases hij:j=i
         ·rw[if_pos hij];cases ms[i]? <;> rfl
         ·rw[if_neg hij])
        unfold effO
        have hex:(execOp a.eval o).run P w = .ok .skip (zp w (ρ b) (.map (ms.modify j fun e=>{ e with key:=kv,val:=v.den ρ γ }) ck)):=by
         simp only[execOp,ho,hm1,hy1,hR.evp hk,Instr.mapUpdate,Sem.run_bind,zC hu,Result.andThen_ok,zF2 g2,hckr,e2,hst,zP10 g2,Sem.run_pure]
        rw[hex]
        refine⟨ρ,γ, ?_,zq1 h⟩
        rw[hd]
        exact hR.agr (zq1 h) hset
      ·cases h
     ·rename_i u hck hf
      have hckr:=zG w hck
      rw[←m1] at hf
      obtain⟨f1,_⟩:=zv6 (w:=w) hf
      have hset:=zZ10 (ms':=ms.push { key:=kv,val:=v.den ρ γ,born:=ck }) hR.hp hb h (fun p hp=>by
       rcases List.mem_append.1 hp with hp|hp
       ·exact g1 p hp
       ·rw[List.mem_singleton.1 hp];exact hy2) (by simp[g3]) (by simp[g4])
      unfold effO
      have hex:(execOp a.eval o).run P w = .ok .skip (zp w (ρ b) (.map (ms.push { key:=kv,val:=v.den ρ γ,born:=ck }) (ck+1))):=by
       simp only[execOp,ho,hm1,hy1,hR.evp hk,Instr.mapUpdate,Sem.run_bind,zC hu,Result.andThen_ok,zF2 g2,hckr,f1,zP10 g2,Sem.run_pure]
      rw[hex]
      refine⟨ρ,γ, ?_,zq1 h⟩
      rw[hd]
      exact hR.agr (zq1 h) hset
     ·cases h
    ·cases h
   ·cases h
  ·cases h
end
end
end Go.Proofs.YtophoepbedlhjaaGreatDoor
