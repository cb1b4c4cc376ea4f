/- Closed calls: walks through maps of one entry at most. Conditions: none. -/
import Derived.Test.YtophoepbedlhjaaGreatDoorQbq
set_option linter.unusedSimpArgs false
set_option linter.unusedVariables false
namespace Go.Proofs.YtophoepbedlhjaaGreatDoor
section
open Go Go.RowKit
set_option maxRecDepth 100000
def xrows (H:XHp) (sz:Nat):XV→Option (Nat × List XV)
 | .v (.slice none 0 0)=>some (0,[])
 | .se _ _ _ _=>some (0,[])
 | .sl b k n _=>(match xcellsN H b k (n*sz) with
  | some l=>some (n,l)
  | none=>none)
 | .sg b k n _=>(match xcellsN H b k (n*sz) with
  | some l=>some (n,l)
  | none=>none)
 | _=>none
def appTy (P:Program) (t:TypeId):Option (TypeId × Nat):=match elemSz P t with
 | some (e,sz)=>(match P.info? e with
  | some i=>(match i.zero with
   | some z=>bif Nat.blt 0 sz && Nat.ble i.bytes 1000 && Nat.beq z.cells.size sz then some (e,sz) else none
   | none=>none)
  | none=>none)
 | none=>none
def xfits:XV→Bool
 | .sl _ _ n c=>Nat.ble n c
 | .sg _ _ _ _=>true
 | .v (.slice none 0 0)=>true
 | _=>false
def xappend (P:Program) (N:Nat) (F:XFr) (H:XHp) (k:Nat) (o:Oper):Option (XFr × XHp):=match o.dst,o.op with
 | some d,.call ⟨.builtin .append,⟨[s,x]⟩,⟨[t,t']⟩⟩=>bif Nat.beq t t' then (match appTy P t,xev F s,xev F x with
  | some (e,sz),some sv,some xv=>(match xrows H sz sv,xrows H sz xv with
   | some (n,olds),some (m,news)=>bif Nat.ble (n+m) 1000000 then (match m with
    | 0=>bif xfits sv then (match xput N F d sv with
     | some F'=>some (F',H)
     | none=>none) else none
    | _+1=>(match sv with
     | .sl b j _ c=>(match Nat.ble (n+m) c with
      | true=>(match H.get b with
       | some ob=>(match xpart2 ob (j+n*sz) news with
        | some ob'=>(match xset H b ob',xput N F d (.sl b j (n+m) c) with
         | some H',some F'=>some (F',H')
         | _,_=>none)
        | none=>none)
       | none=>none)
      | false=>(match xnew H k (.grown e sz (olds++news)),xput N F d (.sg k 0 (n+m) 0) with
       | some H',some F'=>some (F',H')
       | _,_=>none))
     | .sg b 0 _ 0=>(match H.get b with
      | some (.grown e' sz' _)=>bif Nat.beq e e' && Nat.beq sz sz' then (match xset H b .dead with
       | some H1=>(match xnew H1 k (.grown e sz (olds++news)),xput N F d (.sg k 0 (n+m) 0) with
        | some H',some F'=>some (F',H')
        | _,_=>none)
       | none=>none) else none
      | _=>none)
     | .v (.slice none 0 0)=>(match xnew H k (.grown e sz (olds++news)),xput N F d (.sg k 0 (n+m) 0) with
      | some H',some F'=>some (F',H')
      | _,_=>none)
     | _=>none)) else none
   | _,_=>none)
  | _,_,_=>none) else none
 | _,_=>none
section
variable {P:Program} {N:Nat} {w0:XEnv} {ρ γ:Nat→Nat} {F F':XFr} {H H':XHp} {a:Act} {w:World} {o:Oper}
structure AppTy (P:Program) (t e:TypeId) (sz:Nat):Prop where
 ht:P.underlying t=some (.slice e)
 hi:∃(i:TypeInfo) (z:Value),P.info? e=some i∧i.zero=some z∧i.size=sz∧i.bytes≤1000∧z.cells.size=sz
 hsz:0 < sz
theorem zY9 {t e:TypeId} {sz:Nat} (h:appTy P t=some (e,sz)):AppTy P t e sz:=by
 unfold appTy at h
 split at h
 ·rename_i e' sz' he
  obtain⟨hu,i,hi,hs⟩:=zq he
  rw[hi] at h
  simp only at h
  split at h
  ·rename_i z hz
   cases hc:(Nat.blt 0 sz' && Nat.ble i.bytes 1000 && Nat.beq z.cells.size sz') with
   | false=>rw[hc] at h;cases h
   | true=>
    rw[hc] at h
    simp only[cond_true,Option.some.injEq,Prod.mk.injEq] at h
    obtain⟨rfl,rfl⟩:=h
    simp only[Bool.and_eq_true,Nat.blt_eq,Nat.ble_eq] at hc
    exact⟨hu,⟨i,z,hi,hz,hs,hc.1.2,Nat.eq_of_beq_eq_true hc.2⟩,hc.1.1⟩
  ·cases h
 ·cases h
theorem zD5 (h:XH w0 ρ γ H w) {sz n:Nat} {v:XV} {l:List XV} (hr:xrows H sz v=some (n,l)):l.length=n*sz∧(∀x∈l,x.ok (H.has γ)∧(x.den ρ γ).oneCell'=true)∧((v.den ρ γ = .slice none 0 0∧n=0∧l = [])∨∃B off c,v.den ρ γ = .slice (some ⟨B,off,none⟩) n c∧∀(j:Nat) (u:Value),(l.map (XV.den ρ γ))[j]?=some u→w.cell? ((⟨B,off,none⟩:Addr).add j)=some u):=by
 have key:∀b k,xcellsN H b k (n*sz)=some l→l.length=n*sz∧(∀x∈l,x.ok (H.has γ)∧(x.den ρ γ).oneCell'=true)∧∀(j:Nat) (u:Value),(l.map (XV.den ρ γ))[j]?=some u→w.cell? ((⟨ρ b,k,none⟩:Addr).add j)=some u:=fun b k hc=>by
  obtain⟨h1,h2⟩:=zx3 hc
  refine⟨h1,fun x hx=>?_,fun j u hj=>?_⟩
  ·obtain⟨i,hi⟩:=List.getElem?_of_mem hx
   exact(h.cell (h2 i x hi)).2
  ·rw[List.getElem?_map] at hj
   cases hx:l[j]? with
   | none=>rw[hx] at hj;cases hj
   | some x=>
    rw[hx] at hj
    simp only[Option.map_some,Option.some.injEq] at hj
    subst hj
    rw[zU5]
    exact(h.cell (h2 j x hx)).1
 unfold xrows at hr
 split at hr
 ·simp only[Option.some.injEq,Prod.mk.injEq] at hr
  obtain⟨rfl,rfl⟩:=hr
  exact⟨by simp,fun x hx=>(by cases hx),.inl ⟨rfl,rfl,rfl⟩⟩
 ·simp only[Option.some.injEq,Prod.mk.injEq] at hr
  obtain⟨rfl,rfl⟩:=hr
  exact⟨by simp,fun x hx=>(by cases hx),.inr ⟨_,_,_,rfl,fun j u hj=>(by simp at hj)⟩⟩
 ·rename_i b k n' c
  split at hr
  ·rename_i l' hl
   simp only[Option.some.injEq,Prod.mk.injEq] at hr
   obtain⟨rfl,rfl⟩:=hr
   obtain⟨h1,h2,h3⟩:=key b k hl
   exact⟨h1,h2,.inr ⟨_,_,c,rfl,h3⟩⟩
  ·cases hr
 ·rename_i b k n' c
  split at hr
  ·rename_i l' hl
   simp only[Option.some.injEq,Prod.mk.injEq] at hr
   obtain⟨rfl,rfl⟩:=hr
   obtain⟨h1,h2,h3⟩:=key b k hl
   exact⟨h1,h2,.inr ⟨_,_,_,rfl,h3⟩⟩
  ·cases hr
 ·cases hr
theorem xapp_new {base k n sz e:Nat} {v':Value} {w':World} {l:List XV} (h:XH w0 ρ γ H w) (hn:xnew H k (.grown e sz l)=some H') (hown:w'.ownsRow base e sz v' n (l.map (XV.den ρ γ))) (hb:w0.w.heap.size≤base) (hn0:n≠0) (hok:∀x∈l,x.ok (H.has γ)∧(x.den ρ γ).oneCell'=true)
    (hst:XBs w0 w') (hX:∀g,v'.ownBlock=some g→w0.X g=none) (hs:w.heap.size≤w'.heap.size) (hk:∀i x,H.get i=some x→x.live=true→w'.heap[ρ i]?=w.heap[ρ i]?) (hfr:∀g,v'.ownBlock=some g→∀i x,H.get i=some x→x.live=true→ρ i≠g) :
    ∃g cap,XH w0 (upd ρ k g) (upd γ k cap) H' w'∧Agr H ρ γ H' (upd ρ k g) (upd γ k cap)∧(XV.sg k 0 n 0).den (upd ρ k g) (upd γ k cap)=v'∧(XV.sg k 0 n 0).ok (H'.has (upd γ k cap)):=by
 obtain⟨hlen,hc⟩:=hown
 rcases hc with⟨_,h0⟩|⟨g,cap,cur,rfl,hbg,hg,hnc,hcm,hcs,htake⟩
 ·exact absurd h0 hn0
 ·have hA:=zD3 (ρ:=ρ) (γ:=γ) hn g cap
  have hgl:g < w'.heap.size:=(Array.getElem?_eq_some_iff.1 hg).1
  have hll:l.length=n*sz:=by simpa using hlen
  have hle:n*sz≤cap*sz:=Nat.mul_le_mul_right sz hnc
  refine⟨g,cap,h.newAt hn ⟨Nat.le_trans hb hbg,hgl⟩ (hfr g rfl) hs hk hst (hX g rfl) ?_ ⟨cur,hg,hcs,hcm,by omega,fun i x hi=>?_⟩,hA,by simp[XV.den,zE1], ?_⟩
  ·rw[XB.ok,XV.okL_iff];exact fun x hx=>hA.ok (hok x hx).1
  ·have hil:i < l.length:=(List.getElem?_eq_some_iff.1 hi).1
   have hx:=hok x (List.mem_of_getElem? hi)
   rw[hA.den hx.1]
   refine⟨?_,hx.2⟩
   have:(cur.toList.take (n*sz))[i]?=some (x.den ρ γ):=by rw[htake,List.getElem?_map,hi];rfl
   rw[List.getElem?_take,if_pos (by omega)] at this
   simpa using this
  ·exact⟨by rw[(zS1 hn).2,if_pos rfl];rfl,by rw[zE1];omega⟩
theorem zu9 {k:Nat} (h:xappend P N F H k o=some (F',H')):XE P N o F H F' H':=fun w0 ρ γ a w hR=>by
 unfold xappend at h
 split at h
 ·rename_i d s x t t' hd ho
  cases htt:Nat.beq t t' with
  | false=>rw[htt] at h;cases h
  | true=>
   rw[htt] at h
   simp only[cond_true] at h
   obtain rfl:=Nat.eq_of_beq_eq_true htt
   split at h
   ·rename_i e sz sv xv hE hs hx
    obtain⟨hu,⟨i,z,hi,hz,his,hby,hzs⟩,hsz⟩:=zY9 hE
    obtain⟨s1,s2⟩:=hR.ev hs
    obtain⟨x1,x2⟩:=hR.ev hx
    split at h
    ·rename_i n olds m news hro hrn
     cases hle:Nat.ble (n+m) 1000000 with
     | false=>rw[hle] at h;cases h
     | true=>
      rw[hle] at h
      simp only[cond_true] at h
      rw[Nat.ble_eq] at hle
      obtain⟨ra1,ra2,ra3⟩:=zD5 hR.hp hro
      obtain⟨rb1,rb2,rb3⟩:=zD5 hR.hp hrn
      have hex:∀{r:Value} {w':World},(Builtin.append_ #[t,t] o.type #[sv.den ρ γ,xv.den ρ γ]).run P w = .ok r w'→(execOp a.eval o).run P w = .ok (.value r) w':=fun {r w'} hr=>by
       unfold execOp
       simp only[ho,resolve,invoke,builtin,Sem.run_bind,Sem.run_pure,Result.andThen_ok,List.map_toArray,List.map_cons,List.map_nil,s1,x1,hr]
      have hcells:∀x∈olds++news,x.ok (H.has γ)∧(x.den ρ γ).oneCell'=true:=fun x hx=>(List.mem_append.1 hx).elim (ra2 x) (rb2 x)
      have hmax:n+m≤maxLen:=by simp only[maxLen];omega
      have hbytes:(n+m)*i.bytes≤140737488355328:=by
       have:(n+m)*i.bytes≤1000000*1000:=Nat.mul_le_mul hle hby
       omega
      have h1news:∀u∈news.map (XV.den ρ γ),u.oneCell'=true:=fun u hu=>by
       obtain⟨x,hx,rfl⟩:=List.mem_map.1 hu
       exact(rb2 x hx).2
      split at h
      ·cases hfit:xfits sv with
       | false=>rw[hfit] at h;cases h
       | true=>
        rw[hfit] at h
        simp only[cond_true] at h
        split at h
        ·rename_i F1 hF
         simp only[Option.some.injEq,Prod.mk.injEq] at h
         obtain⟨rfl,rfl⟩:=h
         have hrun:(Builtin.append_ #[t,t] o.type #[sv.den ρ γ,xv.den ρ γ]).run P w = .ok (sv.den ρ γ) w:=by
          have hnc:∀{A:Option Addr} {c:Nat},sv.den ρ γ = .slice A n c→n≤c:=fun {A c} hd=>by
           unfold xfits at hfit
           split at hfit
           ·rw[Nat.ble_eq] at hfit
            simp only[XV.den,Value.slice.injEq] at hd
            omega
           ·simp only[XV.den,Value.slice.injEq] at hd
            have:=s2.2
            omega
           ·simp only[XV.den,Value.slice.injEq] at hd
            omega
           ·cases hfit
          rcases ra3 with⟨q1,rfl,rfl⟩|⟨B,off,c,q1,q2⟩ <;> rcases rb3 with⟨p1,_,_⟩|⟨B',off',c',p1,p2⟩ <;> rw[q1,p1]
          ·simp[Builtin.append_,run_underlying hu,sizeOf,typeInfo,hi,Builtin.lenOf,Builtin.firstCells]
          ·simp[Builtin.append_,run_underlying hu,sizeOf,typeInfo,hi,Builtin.lenOf,Builtin.firstCells,loadCells,loadCellsFrom]
          ·simp[Builtin.append_,run_underlying hu,sizeOf,typeInfo,hi,Builtin.lenOf,Builtin.firstCells,storeCells,hnc q1]
          ·simp[Builtin.append_,run_underlying hu,sizeOf,typeInfo,hi,Builtin.lenOf,Builtin.firstCells,storeCells,loadCells,loadCellsFrom,hnc q1]
         unfold effO
         rw[hex hrun]
         refine⟨ρ,γ, ?_,Agr.refl _ _ _⟩
         rw[hd]
         exact hR.put hF s2
        ·cases h
      ·rename_i m'
       obtain⟨B',off',c',p1,p2⟩:∃B off c,xv.den ρ γ = .slice (some ⟨B,off,none⟩) (m'+1) c∧∀(j:Nat) (u:Value),(news.map (XV.den ρ γ))[j]?=some u→w.cell? ((⟨B,off,none⟩:Addr).add j)=some u:=by
        rcases rb3 with⟨_,h0,_⟩|h
        ·cases h0
        ·exact h
       have fin:∀{H1:XHp} {base:Nat} {v':Value} {w':World},XH w0 ρ γ H1 w→Agr H ρ γ H1 ρ γ→(match xnew H1 k (.grown e sz (olds++news)),xput N F d (.sg k 0 (n+(m'+1)) 0) with
           | some H',some F'=>some (F',H')
           | _,_=>none)=some (F',H')→(Builtin.append_ #[t,t] o.type #[sv.den ρ γ,xv.den ρ γ]).run P w = .ok v' w'→w'.ownsRow base e sz v' (n+(m'+1)) ((olds++news).map (XV.den ρ γ))→w0.w.heap.size≤base→XBs w0 w'→(∀g,v'.ownBlock=some g→w0.X g=none)→w.heap.size≤w'.heap.size →
           (∀i x,H1.get i=some x→x.live=true→w'.heap[ρ i]?=w.heap[ρ i]?)→(∀g,v'.ownBlock=some g→∀i x,H1.get i=some x→x.live=true→ρ i≠g)→effO P o a w (XPost N w0 ρ γ H F' H'):=fun {H1 base v' w'} hH hA hm hrun hown hb hst hX hs hk hfr=>by
        split at hm
        ·rename_i H2 F2 hn hF
         simp only[Option.some.injEq,Prod.mk.injEq] at hm
         obtain⟨rfl,rfl⟩:=hm
         obtain⟨g,cap,r1,r2,r3,r4⟩:=xapp_new hH hn hown hb (by omega) (fun x hx=>⟨hA.ok (hcells x hx).1,(hcells x hx).2⟩) hst hX hs hk hfr
         unfold effO
         rw[hex hrun]
         refine⟨upd ρ k g,upd γ k cap, ?_,hA.trans r2⟩
         rw[hd]
         have:=(hR.agr (hA.trans r2) r1).put hF r4
         rw[r3] at this
         exact this
        ·cases hm
       have hmap:(olds++news).map (XV.den ρ γ)=olds.map (XV.den ρ γ)++news.map (XV.den ρ γ):=List.map_append
       split at h
       ·rename_i b j n' c
        split at h
        ·rename_i hcap
         rw[Nat.ble_eq] at hcap
         split at h
         ·rename_i ob hb
          split at h
          ·rename_i ob' hp
           split at h
           ·rename_i H1 F1 hn hF
            simp only[Option.some.injEq,Prod.mk.injEq] at h
            obtain⟨rfl,rfl⟩:=h
            obtain⟨q,q1,q2,q3,q4⟩:=zE5 (P:=P) hR.hp hb hp (fun z hz=>(rb2 z hz).1) (fun z hz=>(rb2 z hz).2)
            have hset:=hR.hp.put hb q2 hn q3 q4
            have hn':n'=n:=by
             rcases ra3 with⟨q1,_,_⟩|⟨B,off,c2,q1,_⟩
             ·cases q1
             ·simp only[XV.den,Value.slice.injEq] at q1;exact q1.2.1
            subst hn'
            have hfc:=run_firstCells_some (P:=P) w i.size (m'+1) ⟨B',off',none⟩ (m'+1) c' (news.map (XV.den ρ γ)) (by rw[List.length_map,rb1,his]) p2
            have hrun:(Builtin.append_ #[t,t] o.type #[(XV.sl b j n' c).den ρ γ,xv.den ρ γ]).run P w = .ok ((XV.sl b j (n'+(m'+1)) c).den ρ γ) (zp w (ρ b) q):=by
             rw[p1]
             simp only[XV.den]
             have hq1:=q1
             rw[←zU5] at hq1
             rw[←his] at hq1
             simp[Builtin.append_,run_underlying hu,sizeOf,typeInfo,hi,Builtin.lenOf,hcap,hfc,hq1]
            unfold effO
            rw[hex hrun]
            refine⟨ρ,γ, ?_,zq1 hn⟩
            rw[hd]
            exact(hR.agr (zq1 hn) hset).put hF ((zq1 (ρ:=ρ) (γ:=γ) hn).ok (x:=.sl b j n' c) s2)
           ·cases h
          ·cases h
         ·cases h
        ·rename_i hcap
         have hcap':c < n+(m'+1):=by
          rcases Nat.lt_or_ge c (n+(m'+1)) with h|h
          ·exact h
          ·rw[Nat.ble_eq_true_of_le h] at hcap;cases hcap
         have hn':n'=n:=by
          rcases ra3 with⟨q1,_,_⟩|⟨B,off,c2,q1,_⟩
          ·cases q1
          ·simp only[XV.den,Value.slice.injEq] at q1;exact q1.2.1
         subst hn'
         rcases ra3 with⟨q1,_,_⟩|⟨B,off,c2,q1,q2⟩
         ·cases q1
         ·have qc:c2=c:=by simp only[XV.den,Value.slice.injEq] at q1;exact q1.2.2.symm
          subst qc
          obtain⟨v',w',hrun,hown,hgr⟩:=run_append_arg_grows (P:=P) w t o.type e i z sz i.bytes hu hi hz his rfl hzs hsz ⟨B,off,none⟩ n' c2 (olds.map (XV.den ρ γ)) (by simpa using ra1) q2 ⟨B',off',none⟩ (m'+1) c' (news.map (XV.den ρ γ)) (by simpa using rb1) p2 hcap' hmax hbytes
          rw[←q1,←p1] at hrun
          rw[←hmap] at hown
          have hst:=hR.hp.st
          refine fin hR.hp (Agr.refl _ _ _) h hrun hown hst.size ⟨⟨hgr.os.trans hst.os,hgr.tape.trans hst.tape,hgr.output.trans hst.output,Nat.le_trans hst.size hgr.size,fun C hC hn=>(hgr.block C (Nat.lt_of_lt_of_le hC hst.size) (by simp)).trans (hst.block C hC hn),Nat.le_trans hst.drawn (zc3 _ _ hrun)⟩,fun B ob hB=>(hgr.block B (hst.lt hB) (by simp)).trans (hst.fx B ob hB)⟩ (fun g hg=>by
           rcases hown.2 with⟨rfl,_⟩|⟨g',cap,cur,rfl,hbg,_⟩
           ·cases hg
           ·simp only[Value.ownBlock,Option.some.injEq] at hg
            cases hX:w0.X g with
            | none=>rfl
            | some ob=>have:=hst.lt hX;omega) hgr.size (fun i x hx lx=>hgr.block _ (hR.hp.hi i x hx lx).2 (by simp)) (fun g hg i x hx lx e=>?_)
          have h1:=(hR.hp.hi i x hx lx).2
          rcases hown.2 with⟨rfl,_⟩|⟨g',cap,cur,rfl,hbg,_⟩
          ·cases hg
          ·simp only[Value.ownBlock,Option.some.injEq] at hg;omega
       ·rename_i b n'
        split at h
        ·rename_i e' sz' cs hb
         cases hc:(Nat.beq e e' && Nat.beq sz sz') with
         | false=>rw[hc] at h;cases h
         | true=>
          rw[hc] at h
          simp only[cond_true] at h
          simp only[Bool.and_eq_true] at hc
          obtain rfl:=Nat.eq_of_beq_eq_true hc.1
          obtain rfl:=Nat.eq_of_beq_eq_true hc.2
          split at h
          ·rename_i H1 hdead
           obtain⟨hok,arr,hh,hasz,hmx,hle2,hcell⟩:=hR.hp.bl b _ hb
           have hn':n'=n:=by
            rcases ra3 with⟨q1,_,_⟩|⟨B,off,c2,q1,_⟩
            ·cases q1
            ·simp only[XV.den,Value.slice.injEq] at q1;exact q1.2.1
           subst hn'
           have hg0:n'≤γ b:=by have:=s2.2;omega
           have hown0:w.ownsRow w0.w.heap.size e sz ((XV.sg b 0 n' 0).den ρ γ) n' (olds.map (XV.den ρ γ)):=by
            refine⟨by simpa using ra1,.inr ⟨ρ b,γ b - 0,arr,rfl,(hR.hp.hi b _ hb rfl).1,hh,by omega,by omega,by simpa using hasz, ?_⟩⟩
            have hxr:xcellsN H b 0 (n'*sz)=some olds:=by
             unfold xrows at hro
             simp only at hro
             split at hro
             ·rename_i l hl;simp only[Option.some.injEq,Prod.mk.injEq] at hro;rw[←hro.2];exact hl
             ·cases hro
            obtain⟨g1,g2⟩:=zx3 hxr
            refine List.ext_getElem? fun q=>?_
            rw[List.getElem?_take]
            by_cases hq:q < n'*sz
            ·rw[if_pos hq,List.getElem?_map]
             have hql:olds[q]?=some olds[q]:=List.getElem?_eq_getElem (by omega)
             have:=g2 q _ hql
             rw[Nat.zero_add] at this
             unfold xcell at this
             rw[hb] at this
             rw[hql,Option.map_some,Array.getElem?_toList]
             exact(hcell q _ this).1
            ·rw[if_neg hq,List.getElem?_eq_none (by simp;omega)]
           obtain⟨v',w',hrun,hown,hgr,_,hob⟩:=run_append_own_at (P:=P) w w0.w.heap.size t o.type e i z sz i.bytes hu hi hz his rfl hzs hsz _ n' (olds.map (XV.den ρ γ)) hown0 ⟨B',off',none⟩ (m'+1) c' (news.map (XV.den ρ γ)) (by simpa using rb1) p2 h1news hmax hbytes hR.hp.st.size
           rw[←p1] at hrun
           rw[←hmap] at hown
           have hst:=hR.hp.st
           have hlo:=(hR.hp.hi b _ hb rfl).1
           have hne:∀i x,H1.get i=some x→x.live=true→i≠b∧H.get i=some x:=fun i x hx lx=>by
            rw[(zF3 hdead).2] at hx
            split at hx
            ·injection hx with hx;subst hx;cases lx
            ·rename_i hi;exact⟨hi,hx⟩
           have hob':(XV.den ρ γ (.sg b 0 n' 0)).ownBlock=some (ρ b):=rfl
           rw[hob'] at hgr hob
           refine fin (hR.hp.set hb (.inr rfl) hdead trivial rfl (fun _ _ _=>rfl) hst trivial) (zq1 hdead) h hrun hown (Nat.le_refl _) ⟨⟨hgr.os.trans hst.os,hgr.tape.trans hst.tape,hgr.output.trans hst.output,Nat.le_trans hst.size hgr.size,fun C hC hn=>(hgr.block C (Nat.lt_of_lt_of_le hC hst.size) (by simp only[ne_eq,Option.some.injEq];omega)).trans (hst.block C hC hn),Nat.le_trans hst.drawn (zc3 _ _ hrun)⟩,fun B ob hB=>(hgr.block B (hst.lt hB) (fun e=>by injection e with e;rw[e,hR.hp.ap b _ hb rfl] at hB;cases hB)).trans (hst.fx B ob hB)⟩ (fun g hg=>by
            rw[hg] at hob
            rcases hob with hob|hob
            ·injection hob with hob;rw[hob];exact hR.hp.ap b _ hb rfl
            ·injection hob with hob;rw[hob];exact hst.new) hgr.size (fun i x hx lx=>?_) (fun g hg i x hx lx e=>?_)
           ·obtain⟨h1,h2⟩:=hne i x hx lx
            exact hgr.block _ (hR.hp.hi i x h2 lx).2 (fun e=>h1 (hR.hp.nd i b x _ h2 hb lx rfl (by injection e)))
           ·obtain⟨h1,h2⟩:=hne i x hx lx
            rw[hg] at hob
            rcases hob with hob|hob
            ·injection hob with hob;exact h1 (hR.hp.nd i b x _ h2 hb lx rfl (e.trans hob))
            ·injection hob with hob;have:=(hR.hp.hi i x h2 lx).2;omega
          ·cases h
        ·cases h
       ·have hn0:n=0∧olds = []:=by
         rcases ra3 with⟨_,q1,q2⟩|⟨B,off,c2,q1,_⟩
         ·exact⟨q1,q2⟩
         ·cases q1
        obtain⟨rfl,rfl⟩:=hn0
        obtain⟨v',w',hrun,hown,hgr,_,hob⟩:=run_append_own_at (P:=P) w w.heap.size t o.type e i z sz i.bytes hu hi hz his rfl hzs hsz (.slice none 0 0) 0 [] (World.ownsRow_nil w _ e sz) ⟨B',off',none⟩ (m'+1) c' (news.map (XV.den ρ γ)) (by simpa using rb1) p2 h1news hmax hbytes (Nat.le_refl _)
        rw[←p1] at hrun
        have hst:=hR.hp.st
        refine fin hR.hp (Agr.refl _ _ _) h hrun hown hst.size ⟨⟨hgr.os.trans hst.os,hgr.tape.trans hst.tape,hgr.output.trans hst.output,Nat.le_trans hst.size hgr.size,fun C hC hn=>(hgr.block C (Nat.lt_of_lt_of_le hC hst.size) (by simp[Value.ownBlock])).trans (hst.block C hC hn),Nat.le_trans hst.drawn (zc3 _ _ hrun)⟩,fun B ob hB=>(hgr.block B (hst.lt hB) (by simp[Value.ownBlock])).trans (hst.fx B ob hB)⟩ (fun g hg=>by
         rw[hg] at hob
         rcases hob with hob|hob
         ·cases hob
         ·injection hob with hob;rw[hob];exact hst.new) hgr.size (fun i x hx lx=>hgr.block _ (hR.hp.hi i x hx lx).2 (by simp[Value.ownBlock])) (fun g hg i x hx lx e=>?_)
        have h1:=(hR.hp.hi i x hx lx).2
        rcases hown.2 with⟨rfl,_⟩|⟨g',cap,cur,rfl,hbg,_⟩
        ·cases hg
        ·simp only[Value.ownBlock,Option.some.injEq] at hg;omega
       ·cases h
    ·cases h
   ·cases h
 ·cases h
end
end
section
open Go Go.RowKit
set_option maxRecDepth 100000
def xiter (P:Program) (N:Nat) (F:XFr) (H:XHp) (k:Nat) (o:Oper):Option (XFr × XHp):=match o.dst with
 | none=>none
 | some d=>match o.op with
  | .range t x=>(match P.underlying t,xev F x with
   | some (.map _ _),some (.m b)=>(match H.get b with
    | some (.map _ _ ck)=>(match xput N F d (.p k 0),xnew H k (.iter b ck [] ck) with
     | some F',some H'=>some (F',H')
     | _,_=>none)
    | _=>none)
   | _,_=>none)
  | .next it false=>(match xev F it with
   | some (.p b 0)=>(match H.get b with
    | some (.iter m since seen last)=>(match H.get m with
     | some (.map es bs ck)=>(match seen,es,bs with
      | [],[p],[q]=>bif Nat.blt q since then (match xput N F d (.t [.v (.bool true),xnorm p.1,p.2]),xset H b (.iter m since [q] ck) with
       | some F',some H'=>some (F',H')
       | _,_=>none) else none
      | seen,es,bs=>bif (bs.all fun q=>seen.contains q) && (bs.isEmpty || bs.any fun q=>Nat.blt q last) && es.isEmpty == bs.isEmpty then (match xput N F d (.t [.v (.bool false)]) with
       | some F'=>some (F',H)
       | none=>none) else none)
     | _=>none)
    | _=>none)
   | _=>none)
  | _=>none
section
variable {P:Program} {N:Nat} {w0:XEnv} {ρ γ:Nat→Nat} {F F':XFr} {H H':XHp} {a:Act} {w:World} {o:Oper}
theorem put_iter {B:Nat} {ob:Obj} {m:Option Nat} {s l:Nat} {se:Array Nat} (h:w.heap[B]?=some (.mapIter m s se l)):(setObj B ob).run P w = .ok () (zp w B ob):=by
 unfold setObj
 simp[Sem.run,h,zp]
theorem zA8 {k:Nat} (h:xiter P N F H k o=some (F',H')):XE P N o F H F' H':=fun w0 ρ γ a w hR=>by
 unfold xiter at h
 split at h
 ·cases h
 ·rename_i d hd
  split at h
  ·rename_i t x ho
   split at h
   ·rename_i kt et b hu hx
    split at h
    ·rename_i es bs ck hb
     split at h
     ·rename_i F1 H1 hF hn
      simp only[Option.some.injEq,Prod.mk.injEq] at h
      obtain⟨rfl,rfl⟩:=h
      obtain⟨g1,ms,g2,g3,g4⟩:=hR.hp.bl b _ hb
      obtain⟨h1,h2⟩:=hR.ev hx
      simp only[XV.den] at h1
      have hne:b≠k:=fun e=>by rw[e,(zS1 hn).1] at hb;cases hb
      have hA:=zD3 (ρ:=ρ) (γ:=γ) hn w.heap.size 0
      have hnew:=hR.hp.new (obj:=.mapIter (some (ρ b)) ck #[] ck) 0 hn h2 (by
       show (w.alloc _).heap[w.heap.size]?=_
       rw[heap_alloc_new,zD1 hne])
      unfold effO
      have hex:(execOp a.eval o).run P w = .ok (.value (.pointer (some ⟨w.heap.size,0,none⟩))) (w.alloc (.mapIter (some (ρ b)) ck #[] ck)):=by
       simp only[execOp,ho,h1,Instr.range,Sem.run_bind,zC hu,Result.andThen_ok,zF2 g2,Sem.run_pure,run_newObj,World.alloc_eq]
      rw[hex]
      refine⟨upd ρ k w.heap.size,upd γ k 0, ?_,hA⟩
      rw[hd]
      have hhas:(H1.get k).isSome=true:=by rw[(zS1 hn).2,if_pos rfl];rfl
      have:=(hR.agr hA hnew).put (x:=.p k 0) hF ⟨hhas,Nat.zero_le _⟩
      rw[show (XV.p k 0).den (upd ρ k w.heap.size) (upd γ k 0) = .pointer (some ⟨w.heap.size,0,none⟩) from by rw[XV.den,zE1]] at this
      exact this
     ·cases h
    ·cases h
   ·cases h
  ·rename_i it ho
   split at h
   ·rename_i b hit
    split at h
    ·rename_i m since seen last hb
     split at h
     ·rename_i es bs ck hm
      obtain⟨q1,q2⟩:=hR.hp.bl b _ hb
      have q2':w.heap[ρ b]?=some (.mapIter (some (ρ m)) since seen.toArray last):=q2
      obtain⟨g1,ms,g2,g3,g4⟩:=hR.hp.bl m _ hm
      obtain⟨h1,h2⟩:=hR.ev hit
      simp only[XV.den] at h1
      split at h
      ·rename_i p q
       cases hc:Nat.blt q since with
       | false=>rw[hc] at h;cases h
       | true=>
        rw[hc] at h
        simp only[cond_true] at h
        rw[Nat.blt_eq] at hc
        split at h
        ·rename_i F1 H1 hF hn
         simp only[Option.some.injEq,Prod.mk.injEq] at h
         obtain⟨rfl,rfl⟩:=h
         obtain⟨e,he⟩:∃e,ms=#[e]:=by
          have hl:ms.toList.length=1:=by have:=congrArg List.length g4;simpa using this
          match hms:ms.toList,hl with
          | [e],_=>exact⟨e,by rw[←Array.toArray_toList (xs:=ms),hms]⟩
         subst he
         simp only[List.map_cons,List.map_nil,List.cons.injEq,Prod.mk.injEq,and_true] at g3 g4
         obtain⟨k1,k2⟩:=g3
         have hset:=hR.hp.put (ob:=.mapIter (some (ρ m)) since #[q] ck) hb rfl hn q1 (by
          show (zp w (ρ b) _).heap[ρ b]?=_
          rw[zH,if_pos ⟨rfl,(hR.hp.hi b _ hb rfl).2⟩])
         unfold effO
         have hex:(execOp a.eval o).run P w = .ok (.value (.tuple #[.bool true,p.1,p.2.den ρ γ])) (zp w (ρ b) (.mapIter (some (ρ m)) since #[q] ck)):=by
          simp only[execOp,ho,h1,Instr.next,Sem.run_bind,zt6 q2',Result.andThen_ok,zF2 g2]
          simp[g4,hc,k1,k2]
          rw[if_pos (by rfl)]
          simp[put_iter q2']
         rw[hex]
         refine⟨ρ,γ, ?_,zq1 hn⟩
         rw[hd]
         have hp2:p.2.ok (H.has γ):=g1 p (by simp)
         have:=(hR.agr (zq1 hn) hset).put hF (x:=.t [.v (.bool true),xnorm p.1,p.2]) ⟨trivial,zn2 _ _,(zq1 (ρ:=ρ) (γ:=γ) hn).ok hp2,trivial⟩
         simpa [XV.den,XV.denL,zA1] using this
        ·cases h
      ·cases hc:((bs.all fun q=>seen.contains q) && (bs.isEmpty || bs.any fun q=>Nat.blt q last) && es.isEmpty == bs.isEmpty) with
       | false=>rw[hc] at h;cases h
       | true=>
        rw[hc] at h
        simp only[cond_true] at h
        simp only[Bool.and_eq_true] at hc
        obtain⟨⟨hc1,hc2⟩,hc3⟩:=hc
        split at h
        ·rename_i F1 hF
         simp only[Option.some.injEq,Prod.mk.injEq] at h
         obtain⟨rfl,rfl⟩:=h
         have hall:∀e∈ms,seen.contains e.born=true:=fun e he=>by
          refine List.all_eq_true.1 hc1 e.born ?_
          rw[←g4]
          exact List.mem_map.2 ⟨e,by simpa using he,rfl⟩
         have hf:ms.filter (fun e=>!seen.toArray.contains e.born)=#[]:=by
          rw[Array.filter_eq_empty_iff]
          intro e he
          have:=hall e he
          simpa using this
         have hun:(!seen.toArray.isEmpty && !ms.isEmpty && ms.all fun e=>decide (e.born≥last))=false:=by
          cases hbe:bs.isEmpty with
          | true=>
           have hbs:bs = []:=by simpa using hbe
           rw[hbs,List.map_eq_nil_iff] at g4
           have:ms=#[]:=by rw[←Array.toArray_toList (xs:=ms),g4]
           subst this
           simp
          | false=>
           rw[hbe,Bool.false_or] at hc2
           obtain⟨q,hq1,hq2⟩:=List.any_eq_true.1 hc2
           rw[←g4] at hq1
           obtain⟨e,he1,he2⟩:=List.mem_map.1 hq1
           rw[Nat.blt_eq] at hq2
           have:(ms.all fun e=>decide (e.born≥last))=false:=by
            rw[←Array.all_toList]
            refine List.all_eq_false.2 ⟨e,he1, ?_⟩
            simp only[ge_iff_le,decide_eq_true_eq]
            omega
           rw[this,Bool.and_false]
         unfold effO
         have hex:(execOp a.eval o).run P w = .ok (.value (.tuple #[.bool false])) w:=by
          simp only[execOp,ho,h1,Instr.next,Sem.run_bind,zt6 q2',Result.andThen_ok,zF2 g2,hun,hf]
          simp
          intro hq
          exact absurd hq (by decide)
         rw[hex]
         refine⟨ρ,γ, ?_,Agr.refl _ _ _⟩
         rw[hd]
         exact hR.put hF (x:=.t [.v (.bool false)]) ⟨trivial,trivial⟩
        ·cases h
     ·cases h
    ·cases h
   ·cases h
  ·cases h
end
end
end Go.Proofs.YtophoepbedlhjaaGreatDoor
