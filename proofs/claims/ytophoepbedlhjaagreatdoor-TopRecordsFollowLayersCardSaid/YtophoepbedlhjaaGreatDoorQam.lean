/- Slices with further bounds; nil slices; clear. -/
import Derived.Test.YtophoepbedlhjaaGreatDoorQal
import Derived.Laws.Cover3
set_option linter.unusedSimpArgs false
set_option linter.unusedVariables false
namespace Go.Proofs.YtophoepbedlhjaaGreatDoor
section
open Go Go.RowKit
section
variable {P:Program} {N:Nat} {E:Env} {F:Fm} {H:List OB} {o:Oper} {S:Nat→Prop} {ρ:List (Option Nat)} {a:Act} {w:World}
theorem zJ9 {n:Nat} {e:TypeId} {sz cap b:Nat} {rows:List (List CV)} (h:RH w S ρ H) (hH:H[b]?=some (.arr e sz cap rows)) (hn:n≤rows.length):Own w 0 e sz ((AV.o b 0 n cap).den ρ H) (toV (rows.take n)):=by
 have hsz:szAt H b=sz:=by unfold szAt;rw[hH];rfl
 rcases h.blk _ _ hH with⟨hnn,rfl,rfl⟩|⟨B,cs,hB,hh,hcs,hmx,hrl,hrow,hcell⟩
 ·obtain rfl:n=0:=by simpa using hn
  refine⟨⟨by simp[toV],.inl ⟨?_,rfl⟩⟩,fun r hr=>by cases hr⟩
  rw[AV.den,hnn];rfl
 ·have hl:∀row∈rows.take n,row.length=sz:=fun row hr=>(hrow row (List.mem_of_mem_take hr)).1
  have hln:(rows.take n).length=n:=by simp;omega
  have hcap:(rows.take n).length*sz≤cap*sz:=Nat.mul_le_mul_right sz (by omega)
  refine⟨⟨?_,.inr ⟨B,cap,cs, ?_,Nat.zero_le _,hh,by simp only[toV,List.length_map];omega,hmx,hcs, ?_⟩⟩,za3 hl⟩
  ·have:∀l:List (List Value),(∀r∈l,r.length=sz)→l.flatten.length=l.length*sz:=by
    intro l;induction l with
    | nil=>intro _;simp
    | cons x l ih=>intro h;rw[List.flatten_cons,List.length_append,ih (fun r hr=>h r (by simp[hr])),h x (by simp),List.length_cons,Nat.add_mul];omega
   exact this _ (za3 hl)
  ·rw[AV.den,hB,hsz];simp[toV];omega
  ·have:=zz3 (cs:=cs) (rows.take n) 0 hl (by rw[Nat.zero_add];omega) (fun k j row u hk hj=>by rw[Nat.zero_add];exact hcell k j row u (by rw[List.getElem?_take] at hk;split at hk;exact hk;cases hk) hj)
   simpa [toV,Nat.min_eq_left hn] using this
theorem zL7 {t e ty:TypeId} {sz base:Nat} (E:ElemTy P t e sz) {A0:Option Addr} {n cap:Nat} {rows:List (List Value)} (hown:Own w base e sz (.slice A0 n cap) rows) (hnr:rows.length=n)
    {lo hi:Nat} {A:Option Addr} {m c:Nat} {news:List (List Value)} (hm:m=news.length) (hr:Sl w lo hi sz A news) (hl:∀r∈news,r.length=sz) (h1:∀r∈news,∀u∈r,u.oneCell'=true)
    (hroom:n+m≤cap) {v':Value} {w':World} (hrun:(Builtin.append_ #[t,t] ty #[.slice A0 n cap,.slice A m c]).run P w = .ok v' w'):v' = .slice A0 (n+m) cap:=by
 obtain⟨i,z,hi,hz,hs,hby,hzs⟩:=E.hi
 subst hm
 have inj:∀{x y:Value} {w1 w2:World},(Result.ok x w1:Result Value) = .ok y w2→x=y:=fun h=>by injection h
 by_cases hn:news = []
 ·subst hn
  simp only[List.length_nil,Nat.add_zero] at hroom hrun ⊢
  rcases hown.1.2 with⟨h0,h00⟩|⟨g,cap',cur,h0,_,hh,hnc,_⟩
  ·injection h0 with e1 e2 e3
   subst e1;subst e2;subst e3
   refine(inj (w1:=w) (Eq.trans (Eq.symm ?_) hrun)).symm
   ·cases A with
    | none=>simp[Builtin.append_,run_underlying E.ht,sizeOf,typeInfo,hi,Builtin.lenOf,Builtin.firstCells]
    | some a=>simp[Builtin.append_,run_underlying E.ht,sizeOf,typeInfo,hi,Builtin.lenOf,Builtin.firstCells,loadCells,loadCellsFrom]
  ·injection h0 with e1 e2 e3
   subst e1;subst e3
   refine(inj (w1:=w) (Eq.trans (Eq.symm ?_) hrun)).symm
   ·cases A with
    | none=>simp[Builtin.append_,run_underlying E.ht,sizeOf,typeInfo,hi,Builtin.lenOf,Builtin.firstCells,hroom,storeCells]
    | some a=>simp[Builtin.append_,run_underlying E.ht,sizeOf,typeInfo,hi,Builtin.lenOf,Builtin.firstCells,hroom,storeCells,loadCells,loadCellsFrom]
 ·obtain⟨b,off,rfl,_,_,_,hc⟩:=hr hn
  have hfl:news.flatten.length=news.length*sz:=by
   have:∀l:List (List Value),(∀r∈l,r.length=sz)→l.flatten.length=l.length*sz:=by
    intro l;induction l with
    | nil=>intro _;simp
    | cons x l ih=>intro h;rw[List.flatten_cons,List.length_append,ih (fun r hr=>h r (by simp[hr])),h x (by simp),List.length_cons,Nat.add_mul];omega
   exact this news hl
  have hnp:0 < news.length:=List.length_pos_iff.2 hn
  rcases hown.1.2 with⟨h0,h00⟩|⟨g,cap',cur,h0,_,hh,hnc,hcm,hcs,_⟩
  ·injection h0 with e1 e2 e3;omega
  ·injection h0 with e1 e2 e3
   subst e1;subst e3
   refine(inj ((run_append_room (P:=P) w t ty e i E.ht hi g n cap cur hh ⟨b,off,none⟩ news.length c news.flatten (by rw[hfl,hs])
   (fun j u hj=>by
    have hjl:j < news.length*sz:=by
     rcases Nat.lt_or_ge j (news.length*sz) with h|h
     ·exact h
     ·rw[List.getElem?_eq_none (by omega)] at hj;cases hj
    have hsz:=E.hsz
    have hk:j / sz < news.length:=Nat.div_lt_of_lt_mul (by rw[Nat.mul_comm];exact hjl)
    have hr0:news[j / sz]?=some news[j / sz]:=List.getElem?_eq_getElem hk
    have hjm:j % sz < sz:=Nat.mod_lt _ hsz
    have hrl:=hl _ (List.getElem_mem hk)
    have hu0:(news[j / sz])[j % sz]?=some ((news[j / sz])[j % sz]'(by omega)):=List.getElem?_eq_getElem (by omega)
    have hf:=zc2 news hl _ _ hr0 _ _ hu0
    have hdm:j / sz*sz+j % sz=j:=by rw[Nat.mul_comm];exact Nat.div_add_mod j sz
    rw[hdm,hj] at hf
    injection hf with hf
    have:=hc _ _ hr0 _ _ hu0
    rw[←hf] at this
    rw[Nat.add_assoc,hdm] at this
    unfold Addr.add
    split
    ·rename_i h0;subst h0;simpa using this
    ·exact this)
   (fun u hu=>by
    obtain⟨r,hr,hur⟩:=List.mem_flatten.1 hu
    exact h1 r hr u hur)
   hroom (by rw[hs,hfl,hcs,←Nat.add_mul];exact Nat.mul_le_mul_right _ hroom)).symm.trans hrun)).symm
theorem zh8 {t e:TypeId} {sz d b n cap:Nat} {s x:Operand} {v:AV} {rows news:List (List CV)} (ho:o.op = .call { callee:=.builtin .append,args:=#[s,x],argTypes:=#[t,t] }) (hd:o.dst=some d) (hN:d < N) (hE:ElemTy P t e sz)
    (hs:ev F s=some (.o b 0 n cap)) (hH:H[b]?=some (.arr e sz cap rows)) (hn:n≤rows.length) (hx:ev F x=some v) (hsrc:Src H sz v news) (hle:n+news.length≤1073741824) (hpin:(∃q,E.H0.length=q∧Nat.ble q b=true)∨E.pin=false:=by first|exact Or.inl ⟨_,by assumption,rfl⟩|exact Or.inr (by assumption)) :
    Ef P N E o F H fun F' H'=>∃g c2,n+news.length≤c2∧(n+news.length≤cap→c2=cap)∧F'=(d,.o b 0 (n+news.length) c2) :: killF g [b] F∧H'=(H.map (killO g [b])).set b (.arr e sz c2 (rows.take n++news)):=fun S ρ a w hR=>by
 have hln:(rows.take n).length=n:=by simp;omega
 obtain⟨g1,_⟩:=hR.ev hs
 obtain⟨g3,g4⟩:=hR.ev hx
 obtain⟨A,c,hv,hsl,hnews⟩:=hR.src g4 hsrc
 have hown:=zJ9 hR.hp hH hn
 obtain⟨v',w',hrun,hO,hg,hat⟩:=zw10 (P:=P) (ty:=o.type) hE hown (m:=news.length) (news:=toV news) (c:=c) (by simp[toV]) hsl (za3 fun row hr=>(hnews row hr).1) (fun r hr u hu=>by
  obtain⟨row,hrow,rfl⟩:=List.mem_map.1 hr
  obtain⟨y,hy,rfl⟩:=List.mem_map.1 hu
  exact((hnews row hrow).2 y hy).2) (by simpa [toV,Nat.min_eq_left hn] using hle) (Nat.zero_le _)
 obtain⟨A2,c2,hv',hc2,-⟩:=hO.form
 have hfit:n+news.length≤cap→c2=cap:=fun hroom=>by
  have h7:=hown
  rw[AV.den] at h7 hrun
  have h8:=zL7 (P:=P) (ty:=o.type) hE h7 (by simp[toV];omega) (m:=news.length) (news:=toV news) (c:=c) (by simp[toV]) hsl (za3 fun row hr=>(hnews row hr).1) (fun r hr u hu=>by
   obtain⟨row,hrow,rfl⟩:=List.mem_map.1 hr
   obtain⟨y,hy,rfl⟩:=List.mem_map.1 hu
   exact((hnews row hrow).2 y hy).2) hroom hrun
  rw[h8] at hv'
  injection hv' with _ _ h9
  exact h9.symm
 have hblt:b < H.length:=(List.getElem?_eq_some_iff.1 hH).1
 have hlen:(toV (rows.take n)++toV news).length=n+news.length:=by simp[toV];omega
 have hob:((AV.o b 0 n cap).den ρ H).ownBlock=atB ρ b:=by rw[AV.den];cases atB ρ b <;> rfl
 rw[hob] at hg hat
 have he:ExB [b] ρ H (ρ.set b v'.ownBlock) ((H.map (killO (AV.den ρ H) [b])).set b (.arr e sz c2 (rows.take n++news))):=by
  refine⟨fun i hi hne=>?_,fun i hi hne=>?_,fun i hi hne=>?_,by simp⟩
  all_goals replace hne:i≠b:=by simpa using hne
  ·unfold atB;rw[List.getElem?_set_ne (Ne.symm hne)]
  ·unfold szAt;rw[List.getElem?_set_ne (Ne.symm hne),List.getElem?_map,List.getElem?_eq_getElem hi];simp[zR4]
  ·unfold capAt;rw[List.getElem?_set_ne (Ne.symm hne),List.getElem?_map,List.getElem?_eq_getElem hi];simp[zU3]
 have hm:Mo w S w' S:=fun k hk=>⟨hk,hg.block k (hR.hp.sS k hk) (fun e=>hR.hp.ap b k e.symm hk)⟩
 have hatb:∀i,atB (ρ.set b v'.ownBlock) i=if i=b then v'.ownBlock else atB ρ i:=fun i=>by
  unfold atB
  rw[List.getElem?_set]
  by_cases hi:b=i
  ·subst hi;simp[hR.hp.len,hblt]
  ·simp[hi,Ne.symm hi]
 have hsub:∀i B,atB (ρ.set b v'.ownBlock) i=some B→(atB ρ i=some B)∨(i=b∧B=w.heap.size∧w.heap.size < w'.heap.size):=fun i B hi=>by
  rw[hatb] at hi
  by_cases hib:i=b
  ·subst hib
   rw[if_pos rfl] at hi
   rcases hat with h|h
   ·exact .inl (h▸hi)
   ·refine .inr ⟨rfl, ?_, ?_⟩
    ·rw[hi] at h;injection h
    ·obtain⟨_,hlt⟩:=hO.lt w.heap.size h;exact hlt
  ·rw[if_neg hib] at hi;exact .inl hi
 have hnl:∀row∈rows.take n++news,row.length=sz∧∀u∈row,Good w S u∧u.den.oneCell'=true:=fun row hr=>by
  rcases List.mem_append.1 hr with hr|hr
  ·rcases hR.hp.blk _ _ hH with⟨_,_,rfl⟩|⟨B,cs,hB,hh,hcs,hmx,hrl,hrow,hcell⟩
   ·simp at hr
   ·exact hrow row (List.mem_of_mem_take hr)
  ·exact hnews row hr
 unfold effO
 have hex:(execOp a.eval o).run P w = .ok (.value v') w':=by
  unfold execOp
  simp only[ho,resolve,invoke,builtin,Sem.run_bind,Sem.run_pure,Result.andThen_ok,List.map_toArray,List.map_cons,List.map_nil,g1,g3,hv,hrun]
 rw[hex]
 have hden:(AV.o b 0 (n+news.length) c2).den (ρ.set b v'.ownBlock) ((H.map (killO (AV.den ρ H) [b])).set b (.arr e sz c2 (rows.take n++news)))=v':=by
  rw[AV.den,hatb,if_pos rfl]
  rcases hO.1.2 with⟨h1,h2⟩|⟨g,cap',cur,h1,_,_,_,_,_⟩
  ·rw[h1] at hv' ⊢
   injection hv' with h3 h4 h5
   rw[hlen] at h4
   simp[Value.ownBlock,←h4,←h5]
  ·rw[h1] at hv' ⊢
   injection hv' with h3 h4 h5
   subst h5
   simp[Value.ownBlock,hlen]
 have hin:∀i k B,inP ((H.map (killO (AV.den ρ H) [b])).set b (.arr e sz c2 (rows.take n++news))) i k B→inP H i k B:=fun i k B hi=>zs6 (zr6 (fun _ _=>zA4) hi)
 refine⟨S,ρ.set b v'.ownBlock,_,_,⟨AV.den ρ H,c2,by rw[←hlen];exact hc2,hfit,rfl,rfl⟩, ?_⟩
 rw[hd]
 show R N E S _ _ _ (a.put (some d) v') w'
 have hR':R N E S (ρ.set b v'.ownBlock) (killF (AV.den ρ H) [b] F) ((H.map (killO (AV.den ρ H) [b])).set b (.arr e sz c2 (rows.take n++news))) a w':=by
  refine⟨hR.df,hR.sz,fun i y hy=>?_,⟨by simpa using hR.hp.len,fun i i' B hi hi'=>?_,fun i B hi hS=>?_,fun i B hi=>?_,fun k hk=>Nat.lt_of_lt_of_le (hR.hp.sS k hk) hg.size,fun i y hy=>?_,hR.hp.pl.mono hin (fun B hB=>.inl hB) (fun j B hj=>?_) hg.size⟩, ?_,fun i B hi=>?_,hR.nS,fun i k B hi=>hR.pw i k B (hin i k B hi),fun i hi=>?_,fun hpp i hi=>?_⟩
  rotate_left 5
  ·rcases hsub j B hj with h|⟨_,h,_⟩
   ·exact .inl ⟨j,h⟩
   ·exact .inr (by omega)
  rotate_right 5
  ·obtain⟨y',h1,rfl⟩:=zp2 hy
   obtain⟨h2,h3⟩:=hR.fr i y' h1
   obtain⟨h4,h5⟩:=h3.killed he hm
   exact⟨by rw[h4];exact h2,h5⟩
  ·rcases hsub i B hi with h|⟨h,h1,_⟩ <;> rcases hsub i' B hi' with h'|⟨h',h1',_⟩
   ·exact hR.hp.nd i i' B h h'
   ·have:=hR.hp.lt i B h;omega
   ·have:=hR.hp.lt i' B h';omega
   ·omega
  ·rcases hsub i B hi with h|⟨h,h1,_⟩
   ·exact hR.hp.ap i B h hS
   ·have:=hR.hp.sS B hS;omega
  ·rcases hsub i B hi with h|⟨h,h1,h2⟩
   ·exact Nat.lt_of_lt_of_le (hR.hp.lt i B h) hg.size
   ·omega
  ·rw[List.getElem?_set] at hy
   split at hy
   ·rename_i hbi
    subst hbi
    split at hy
    ·injection hy with hy
     subst hy
     rw[hatb,if_pos rfl]
     rcases hO.1.2 with⟨h1,h2⟩|⟨g,cap',cur,h1,h0,h2,h3,h4,h5,h6⟩
     ·refine .inl ⟨by rw[h1];rfl, ?_, ?_⟩
      ·rw[h1] at hv';injection hv' with _ _ h5;exact h5.symm
      ·have:(rows.take n++news).length=0:=by rw[hlen] at h2;rw[List.length_append,hln];omega
       exact List.eq_nil_of_length_eq_zero this
     ·have hcc:cap'=c2:=by rw[h1] at hv';injection hv'
      subst hcc
      refine .inr ⟨g,cur,by rw[h1];rfl,h2,h5,h4,by rw[hlen] at h3;rw[List.length_append,hln];exact h3,fun row hr=>⟨(hnl row hr).1,fun u hu=>⟨((hnl row hr).2 u hu).1.mono hm,((hnl row hr).2 u hu).2⟩⟩,fun k j row u hk hj=>?_⟩
      have h7:=zH4 (rows.take n++news) (fun row hr=>(hnl row hr).1) (xs:=cur.toList.take ((toV (rows.take n)++toV news).length*sz)) (by rw[h6];simp[toV]) k j row u hk hj
      rw[List.getElem?_take] at h7
      split at h7
      ·rw[←Array.getElem?_toList];exact h7
      ·cases h7
    ·cases hy
   ·rename_i hbi
    rw[List.getElem?_map] at hy
    cases hz:H[i]? with
    | none=>rw[hz] at hy;cases hy
    | some ob=>
     rw[hz] at hy
     simp only[Option.map_some,Option.some.injEq] at hy
     subst hy
     rw[hatb,if_neg (Ne.symm hbi)]
     exact(hR.hp.blk i ob hz).killed he hm (fun B hB=>hg.block B (hR.hp.lt i B hB) (fun e=>hbi (hR.hp.nd _ _ _ e.symm hB))) (fun k B hB=>by
      obtain⟨_,q2,q3⟩:=hR.hp.pl.ps i k B ⟨ob,hz,hB⟩
      exact hg.block B q3 (fun e=>q2 b e.symm))
  ·refine hR.st.trans (T:=fun k=>atB ρ b=some k) ⟨hg.os,hg.tape,hg.output,hg.size,fun k hk hne=>hg.block k hk (fun e=>hne e.symm),zc3 _ _ hrun⟩ (fun k hk hT=>?_)
   rcases hR.nw b k hT with(h|h)|h
   ·omega
   ·exact .inr h
   ·exact .inl ⟨_,h.2⟩
  ·rcases hsub i B hi with h|⟨h,h1,h2⟩
   ·exact hR.nw i B h
   ·exact .inl (.inl (by rw[h1];exact hR.st.size))
  ·obtain⟨h1,h2⟩:=hR.ln i hi
   refine⟨by simpa using h1,fun o ho hs=>?_⟩
   obtain⟨h3,o',h4,h5⟩:=h2 o ho hs
   have hne:i≠b:=fun e=>by rw[e,hH] at h4;injection h4 with h4;subst h4;exact hs h5.symm
   exact⟨by rw[hatb,if_neg hne];exact h3,killO (AV.den ρ H) [b] o',by rw[List.getElem?_set_ne (Ne.symm hne),List.getElem?_map,h4];rfl,by rw[zT3];exact h5⟩
  ·have hne:i≠b:=fun e=>by
    rcases hpin with⟨q,h1,h2⟩|h1
    ·have:=Nat.le_of_ble_eq_true h2;omega
    ·rw[h1] at hpp;cases hpp
   have hil:=(hR.ln i hi).1
   obtain⟨h1,h2,h3⟩:=hR.pn hpp i hi
   exact⟨by rw[hatb,if_neg hne];exact h1,by rw[he.sz i hil (by simpa using hne)];exact h2,by rw[he.cap i hil (by simpa using hne)];exact h3⟩
 have hfin:=hR'.put (d:=d) (x:=.o b 0 (n+news.length) c2) hN (.o (by simpa using hblt) (by rw[←hlen];exact hc2) (by simp[capAt,hblt,OB.cap]) (fun h=>by
  rw[hatb,if_pos rfl] at h
  rcases hO.1.2 with⟨h1,h2⟩|⟨g,cap',cur,h1,_⟩
  ·rw[hlen] at h2
   rw[h1] at hv'
   injection hv' with _ h4 h5
   exact⟨h2,h5.symm⟩
  ·rw[h1] at h;cases h))
 rw[hden] at hfin
 exact hfin
end
end
section
open Go Go.RowKit
section
variable {P:Program} {N:Nat} {E:Env} {F:Fm} {H:List OB} {o:Oper} {S:Nat→Prop} {ρ:List (Option Nat)} {a:Act} {w:World} {Q:Exit→Fm→List OB→Prop}
theorem zc7 {t e:TypeId} {x ix:Operand} {b k n c i j sz cap:Nat} {kd:IntKind} {z:Int} {rows:List (List CV)} (ho:o.op = .indexAddr t x ix) (ht:elemSz P t=some (e,sz)) (hx:ev F x=some (.o b k n c)) (hH:H[b]?=some (.arr e sz cap rows)) (hix:ev F ix=some (.c (.s (.int kd z)))) (hz:z=i) (hi:i < n) (hj:k+i=j) :
    Rd P N E o F H (.p b j 0):=by subst hj;exact zP4 ho ht hx hH hix hz hi
theorem zC10 {t e:TypeId} {sz:Nat} {x:Operand} {lo hi:Option Operand} {b k n c l h cap:Nat} {rows:List (List CV)} (ho:o.op = .slice t x lo hi none) (ht:elemSz P t=some (e,sz)) (hx:ev F x=some (.o b k n c)) (hH:H[b]?=some (.arr e sz cap rows))
    (hlo:(lo=none∧l=0)∨∃y kd z,lo=some y∧ev F y=some (.c (.s (.int kd z)))∧z=l) (hhi:(hi=none∧h=n)∨∃y kd z,hi=some y∧ev F y=some (.c (.s (.int kd z)))∧z=h) (hlh:l≤h) (hhc:h≤c) (hlc:l < c):Rd P N E o F H (.o b (k+l) (h - l) (c - l)):=fun S ρ a w hR=>by
 obtain⟨h1,h2⟩:=hR.ev hx
 obtain⟨hu,inf,hinf,hs⟩:=zq ht
 have hu':(underlying t).run P w = .ok (.slice e) w:=by unfold underlying;simp[hu]
 have hz:(sizeOf e).run P w = .ok sz w:=by simp[sizeOf,typeInfo,hinf,hs]
 have hsz:szAt H b=sz:=by unfold szAt;rw[hH];rfl
 cases h2 with
 | o g0 g1 g2 g3=>
  cases hB:atB ρ b with
  | none=>have:=(g3 hB).2;omega
  | some B=>
   have hbounds:=zb2 (P:=P) (w:=w) (zz1 hR hlo) (zz1 hR hhi) hlh hhc true
   refine⟨?_,.o g0 (by omega) (by omega) (fun h=>by rw[hB] at h;cases h)⟩
   simp only[execOp,ho,h1,AV.den,hB,Option.map_some,hsz,Instr.sliceAt,Instr.slice,Sem.run_bind,hu',Result.andThen_ok,Option.map_none,hbounds,hz,Sem.run_pure]
   rw[if_neg (by omega)]
   congr 3
   simp only[Option.some.injEq]
   unfold Addr.add
   split
   ·rename_i h0;simp only[Addr.mk.injEq,and_true,true_and];rw[Nat.add_mul];omega
   ·simp only[Addr.mk.injEq,and_true,true_and];rw[Nat.add_mul]
theorem zZ6 {t e:TypeId} {sz:Nat} {x:Operand} {lo hi:Option Operand} {b k n c l h cap:Nat} {rows:List (List CV)} (ho:o.op = .slice t x lo hi none) (ht:elemSz P t=some (e,sz)) (hx:ev F x=some (.o b k n c)) (hH:H[b]?=some (.arr e sz cap rows))
    (hlo:(lo=none∧l=0)∨∃y kd z,lo=some y∧ev F y=some (.c (.s (.int kd z)))∧z=l) (hhi:(hi=none∧h=n)∨∃y kd z,hi=some y∧ev F y=some (.c (.s (.int kd z)))∧z=h) (hlh:l=h) (hlc:l=c):Rd P N E o F H (.o b k 0 0):=fun S ρ a w hR=>by
 obtain⟨h1,h2⟩:=hR.ev hx
 obtain⟨hu,inf,hinf,hs⟩:=zq ht
 have hu':(underlying t).run P w = .ok (.slice e) w:=by unfold underlying;simp[hu]
 have hz:(sizeOf e).run P w = .ok sz w:=by simp[sizeOf,typeInfo,hinf,hs]
 have hsz:szAt H b=sz:=by unfold szAt;rw[hH];rfl
 cases h2 with
 | o g0 g1 g2 g3=>
  have hbounds:=zb2 (P:=P) (w:=w) (zz1 hR hlo) (zz1 hR hhi) (Nat.le_of_eq hlh) (c:=c) (by omega) true
  refine⟨?_,.o g0 (by omega) (by omega) (fun _=>⟨rfl,rfl⟩)⟩
  simp only[execOp,ho,h1,AV.den,Instr.sliceAt,Instr.slice,Sem.run_bind,hu',Result.andThen_ok,Option.map_none,hbounds,hz,Sem.run_pure]
  rw[if_pos hlc.symm,show h - l=0 from by omega,show c - l=0 from by omega]
theorem zE10 {t e:TypeId} {sz:Nat} {x y1 y2 y3:Operand} {k1 k2 k3:IntKind} {b k n c l h mx cap:Nat} {z1 z2 z3:Int} {rows:List (List CV)} (ho:o.op = .slice t x (some y1) (some y2) (some y3)) (ht:elemSz P t=some (e,sz)) (hx:ev F x=some (.o b k n c)) (hH:H[b]?=some (.arr e sz cap rows))
    (e1:ev F y1=some (.c (.s (.int k1 z1)))) (h1:z1=l) (e2:ev F y2=some (.c (.s (.int k2 z2)))) (h2:z2=h) (e3:ev F y3=some (.c (.s (.int k3 z3)))) (h3:z3=mx) (hlh:l≤h) (hhm:h≤mx) (hmc:mx≤c) (hlm:l < mx):Rd P N E o F H (.o b (k+l) (h - l) (mx - l)):=fun S ρ a w hR=>by
 obtain⟨q1,q2⟩:=hR.ev hx
 have p1:=(hR.ev e1).1
 have p2:=(hR.ev e2).1
 have p3:=(hR.ev e3).1
 subst h1;subst h2;subst h3
 obtain⟨hu,inf,hinf,hs⟩:=zq ht
 have hu':(underlying t).run P w = .ok (.slice e) w:=by unfold underlying;simp[hu]
 have hz:(sizeOf e).run P w = .ok sz w:=by simp[sizeOf,typeInfo,hinf,hs]
 have hsz:szAt H b=sz:=by unfold szAt;rw[hH];rfl
 have hb1:∀(y:Nat) (m:Nat) (kd:IntKind) (code:BoundsCode),y≤m→(Instr.sliceBound (.int kd y) m code).run P w = .ok y w:=fun y m kd code hy=>by
  unfold Instr.sliceBound;simp[asIntOf];omega
 cases q2 with
 | o g0 g1 g2 g3=>
  cases hB:atB ρ b with
  | none=>have:=(g3 hB).2;omega
  | some B=>
   refine⟨?_,.o g0 (by omega) (by omega) (fun h=>by rw[hB] at h;cases h)⟩
   simp only[execOp,ho,q1,p1,p2,p3,AV.den,CV.den,hB,Option.map_some,hsz,Instr.sliceAt,Instr.slice,Instr.sliceBounds,Sem.run_bind,hu',Result.andThen_ok,hb1 _ _ _ _ hmc,hb1 _ _ _ _ hhm,hb1 _ _ _ _ hlh,hz,Sem.run_pure]
   rw[if_neg (by omega)]
   congr 3
   simp only[Option.some.injEq]
   unfold Addr.add
   split
   ·rename_i h0;simp only[Addr.mk.injEq,and_true,true_and];rw[Nat.add_mul];omega
   ·simp only[Addr.mk.injEq,and_true,true_and];rw[Nat.add_mul]
def rnil:Value→Bool
 | .slice none _ _=>true
 | _=>false
theorem zA9 (t e:TypeId) (A:Option Addr) (n c:Nat) (h:P.underlying t=some (.slice e)):(Op.equal t (.slice A n c) (.slice none 0 0)).run P w = .ok A.isNone w:=run_equal_slice_nil w t e A n c h
theorem zM10 {t e:TypeId} {sz:Nat} {x:Operand} {yt:TypeId} {v:Value} {rows:List (List CV)} (ho:o.op = .binOp .eql t x (.const (.slice none 0 0)) yt) (hx:ev F x=some (.c (.r v rows))) (ht:elemSz P t=some (e,sz)):Rd P N E o F H (.c (.s (.bool (rnil v)))):=fun S ρ a w hR=>by
 obtain⟨h1,h2⟩:=hR.ev hx
 obtain⟨hu,_⟩:=zq ht
 refine⟨?_,.c (.s _)⟩
 have hc:a.eval (.const (.slice none 0 0)) = .slice none 0 0:=rfl
 obtain⟨A,n,c,hv,hn⟩:∃A n c,v = .slice A n c∧rnil v=A.isNone:=by
  cases h2 with
  | c g=>
   cases g with
   | nil A c=>exact⟨_,_,_,rfl,by cases A <;> rfl⟩
   | r=>exact⟨_,_,_,rfl,rfl⟩
 subst hv
 rw[hn]
 simp only[execOp,ho,h1,hc,AV.den,CV.den,eqGuard,binOp,Sem.run_bind,Sem.run_pure,Result.andThen_ok,zA9 t e A n c hu]
 rfl
theorem ef_clear {t e:TypeId} {sz:Nat} {x:Operand} {b k n c cap:Nat} {z:Value} {rows:List (List CV)} (ho:o.op = .call { callee:=.builtin .clear,args:=#[x],argTypes:=#[t] }) (hd:o.dst=none) (ht:elemSz P t=some (e,sz)) (hz:(P.info? e).bind (·.zero)=some z) (hzs:z.cells.size=sz) (h1:z.cells.toList.all Value.oneCell'=true)
    (hx:ev F x=some (.o b k n c)) (hH:H[b]?=some (.arr e sz cap rows)) (hk:rows.length≤k):Ef P N E o F H fun F' H'=>F'=F∧H'=H:=fun S ρ a w hR=>by
 obtain⟨g1,g2⟩:=hR.ev hx
 obtain⟨hu,i,hi,hs⟩:=zq ht
 have hu':(underlying t).run P w = .ok (.slice e) w:=by unfold underlying;simp[hu]
 have hzr:(zeroValue e).run P w = .ok z w:=by
  unfold zeroValue typeInfo
  rw[hi] at hz
  simp only[Option.bind_some] at hz
  simp[hi,hz]
 have hsz:szAt H b=sz:=by unfold szAt;rw[hH];rfl
 have hcp:capAt H b=cap:=by unfold capAt;rw[hH];rfl
 have fin:∀w',(Builtin.clear_ #[t] o.type #[(AV.o b k n c).den ρ H]).run P w = .ok (.tuple #[]) w'→R N E S ρ F H a w'→effO P o a w (fun a' w'=>∃S' ρ' F' H',(F'=F∧H'=H)∧R N E S' ρ' F' H' a' w'):=fun w' hr hh=>by
  unfold effO
  have hex:(execOp a.eval o).run P w = .ok (.value (.tuple #[])) w':=by
   unfold execOp
   simp only[ho,resolve,invoke,builtin,Sem.run_bind,Sem.run_pure,Result.andThen_ok,List.map_toArray,List.map_cons,List.map_nil,g1,hr]
  rw[hex]
  exact⟨S,ρ,F,H,⟨rfl,rfl⟩,by rw[hd];exact hh⟩
 cases g2 with
 | o q0 q1 q2 q3=>
  cases hB:atB ρ b with
  | none=>
   obtain⟨rfl,rfl⟩:=q3 hB
   refine fin w ?_ hR
   simp[Builtin.clear_,AV.den,hB,run_underlying hu]
  | some B=>
   cases n with
   | zero=>
    refine fin w ?_ hR
    simp[Builtin.clear_,AV.den,hB,run_underlying hu]
   | succ n=>
    rcases hR.hp.blk _ _ hH with⟨h0,_,_⟩|⟨B',cs,hB',hh,hcs,hmx,hrl,hrow,hcell⟩
    ·rw[hB] at h0;cases h0
    obtain rfl:B=B':=by rw[hB] at hB';injection hB'
    have hfit:k*sz+(n+1)*sz≤cs.size:=by
     rw[hcs,←Nat.add_mul];exact Nat.mul_le_mul_right sz (by rw[hcp] at q2;omega)
    have hzl:(Builtin.zeroCells z.cells (n+1)).toList.length=(n+1)*sz:=by rw[Array.length_toList,size_zeroCells,hzs]
    have hone:∀u∈(Builtin.zeroCells z.cells (n+1)).toList,u.oneCell'=true:=fun u hu=>by
     simp only[Builtin.zeroCells,Array.toList_map,List.mem_map] at hu
     obtain⟨i,hi,rfl⟩:=hu
     have hi2:i < (n+1)*z.cells.size:=by simpa using hi
     have hpos:0 < z.cells.size:=by
      rcases Nat.eq_zero_or_pos z.cells.size with h|h
      ·rw[h] at hi2;simp at hi2
      ·exact h
     have hm:=Nat.mod_lt i hpos
     rw[getElem!_pos z.cells _ hm]
     exact List.all_eq_true.1 h1 _ (by simp)
    have hrun:=zL (P:=P) (off:=k*sz) (Builtin.zeroCells z.cells (n+1)).toList 0 w _ hh (by rw[hzl];omega) hone
    rw[Nat.add_zero] at hrun
    refine fin (zp w B (.cells (setAll cs (k*sz) (Builtin.zeroCells z.cells (n+1)).toList) e (0,0))) ?_ ?_
    ·simp only[Builtin.clear_,AV.den,hB,Option.map_some,hsz,Sem.run_bind,Sem.run_pure,run_underlying hu,Result.andThen_ok,List.getElem?_toArray,List.getElem?_cons_zero,hzr,hrun]
     rfl
    ·have hm:=za9 hR.hp hB (.cells (setAll cs (k*sz) (Builtin.zeroCells z.cells (n+1)).toList) e (0,0))
     have hset:H.set b (.arr e sz cap rows)=H:=by
      refine List.ext_getElem? fun i=>?_
      rw[List.getElem?_set]
      split
      ·rename_i hbi;subst hbi
       first
        | exact hH.symm
        | (split
           ·exact hH.symm
           ·rename_i hl;rw[List.getElem?_eq_none (by omega)] at hH;cases hH)
      ·rfl
     have:=R.set (ob:=.arr e sz cap rows) (ob':=.arr e sz cap rows) (cob:=.cells (setAll cs (k*sz) (Builtin.zeroCells z.cells (n+1)).toList) e (0,0)) hR hH hB rfl rfl (fun _=>rfl) (zm1 _ _) (.inr ⟨B,_,rfl,zJ1 hh,by rw[zk1 0];exact hcs,hmx,hrl,fun r hr=>⟨(hrow r hr).1,fun u hu=>⟨((hrow r hr).2 u hu).1.mono hm,((hrow r hr).2 u hu).2⟩⟩,fun k' j' r u hk' hj'=>by
      have hr':=(hrow r (List.mem_of_getElem? hk')).1
      have hj'':j' < sz:=by rw[←hr'];exact(List.getElem?_eq_some_iff.1 hj').1
      have hkl:k' < rows.length:=(List.getElem?_eq_some_iff.1 hk').1
      rw[zU _ _ _ _ (by rw[hzl];omega),if_neg ?_]
      ·exact hcell k' j' r u hk' hj'
      ·rintro⟨w1,w2⟩
       have:(k'+1)*sz≤k*sz:=Nat.mul_le_mul_right sz (by omega)
       rw[Nat.add_mul] at this
       omega⟩)
     rw[hset] at this
     exact this
end
end
end Go.Proofs.YtophoepbedlhjaaGreatDoor
