/- The logic over values: append. -/
import Derived.Test.YtophoepbedlhjaaGreatDoorQab
import Derived.Test.YtophoepbedlhjaaGreatDoorQae
set_option linter.unusedSimpArgs false
set_option linter.unusedVariables false
namespace Go.Proofs.YtophoepbedlhjaaGreatDoor
section
open Go Go.RowKit
theorem Own.but {w w':World} {base g:Nat} {e:TypeId} {sz:Nat} {v:Value} {rows:List (List Value)} (h:Own w base e sz v rows) (hg:w.grownBy w' (some g)) (hb:g < base):Own w' base e sz v rows:=
 h.kept hg (by
  cases hv:v.ownBlock with
  | none=>exact .inl rfl
  | some k=>exact .inr (fun e=>by injection e with e;have:=(h.lt k hv).1;omega))
end
section
open Go Go.RowKit
section
variable {P:Program} {w:World}
end
end
section
open Go Go.RowKit
mutual
def AV.has (b:List Nat):AV→Bool
 | .p b' _ _=>b.contains b'
 | .o b' _ _ _=>b.contains b'
 | .a l=>AV.hasL b l
 | .t l=>AV.hasL b l
 | .f _ l=>AV.hasL b l
 | .mp b'=>b.contains b'
 | .c _=>false
 | .q ..=>false
def AV.hasL (b:List Nat):List AV→Bool
 | []=>false
 | x :: l=>x.has b || AV.hasL b l
end
theorem AV.hasL_false {b:List Nat}:∀{l:List AV},AV.hasL b l=false→∀x∈l,x.has b=false
 | [],_,x,hx=>by cases hx
 | y :: l,h,x,hx=>by
  simp only[AV.hasL,Bool.or_eq_false_iff] at h
  rcases List.mem_cons.1 hx with rfl|hx
  ·exact h.1
  ·exact AV.hasL_false h.2 x hx
def killV (g:AV→Value) (b:List Nat) (x:AV):AV:=if x.has b then .c (.s (g x)) else x
def killO (g:AV→Value) (b:List Nat):OB→OB
 | .box l=>.box (l.map (killV g b))
 | .boxt t l=>.boxt t (l.map (killV g b))
 | .eqv x v=>.eqv (killV g b x) v
 | .itr q since seen last=>if b.contains q then .dead else .itr q since seen last
 | o=>o
def killF (g:AV→Value) (b:List Nat) (F:Fm):Fm:=F.map fun e=>(e.1,killV g b e.2)
structure ExB (b:List Nat) (ρ:List (Option Nat)) (H:List OB) (ρ':List (Option Nat)) (H':List OB):Prop where
 at_:∀i,i < H.length→i∉b→atB ρ' i=atB ρ i
 sz:∀i,i < H.length→i∉b→szAt H' i=szAt H i
 cap:∀i,i < H.length→i∉b→capAt H' i=capAt H i
 len:H.length≤H'.length
section
variable {w w':World} {S S':Nat→Prop} {ρ ρ':List (Option Nat)} {H H':List OB} {x:AV} {b:List Nat}
theorem WF.den_but (h:WF w S ρ H x) (hb:x.has b=false) (he:ExB b ρ H ρ' H'):x.den ρ' H'=x.den ρ H:=by
 induction h with
 | c h=>rfl
 | p h0 h=>simp only[AV.has,List.contains_eq_mem,decide_eq_false_iff_not] at hb;simp only[AV.den,he.at_ _ h0 hb,he.sz _ h0 hb]
 | o h0 h1 h2 h3=>simp only[AV.has,List.contains_eq_mem,decide_eq_false_iff_not] at hb;simp only[AV.den,he.at_ _ h0 hb,he.sz _ h0 hb]
 | q h1 h2 h3=>rfl
 | a h ih=>simp only[AV.has] at hb;simp only[AV.den,AV.denL_eq];rw[List.map_congr_left fun x hx=>ih x hx (AV.hasL_false hb x hx)]
 | t h ih=>simp only[AV.has] at hb;simp only[AV.den,AV.denL_eq];rw[List.map_congr_left fun x hx=>ih x hx (AV.hasL_false hb x hx)]
 | f h ih=>simp only[AV.has] at hb;simp only[AV.den,AV.denL_eq];rw[List.map_congr_left fun x hx=>ih x hx (AV.hasL_false hb x hx)]
 | mp h0 h=>simp only[AV.has,List.contains_eq_mem,decide_eq_false_iff_not] at hb;simp only[AV.den,he.at_ _ h0 hb]
theorem WF.but (h:WF w S ρ H x) (hb:x.has b=false) (he:ExB b ρ H ρ' H') (hm:Mo w S w' S'):WF w' S' ρ' H' x:=by
 induction h with
 | c h=>exact .c (h.mono hm)
 | p h0 h=>simp only[AV.has,List.contains_eq_mem,decide_eq_false_iff_not] at hb;exact .p (Nat.lt_of_lt_of_le h0 he.len) (by rw[he.at_ _ h0 hb];exact h)
 | o h0 h1 h2 h3=>simp only[AV.has,List.contains_eq_mem,decide_eq_false_iff_not] at hb;exact .o (Nat.lt_of_lt_of_le h0 he.len) h1 (by rw[he.cap _ h0 hb];exact h2) (by rw[he.at_ _ h0 hb];exact h3)
 | q h1 h2 h3=>exact .q (hm _ h1).1 (fun i u hu=>by rw[World.cell?_of_block (w:=w) (hm _ h1).2];exact h2 i u hu) (fun u hu=>(h3 u hu).mono hm)
 | a h ih=>simp only[AV.has] at hb;exact .a fun x hx=>ih x hx (AV.hasL_false hb x hx)
 | t h ih=>simp only[AV.has] at hb;exact .t fun x hx=>ih x hx (AV.hasL_false hb x hx)
 | f h ih=>simp only[AV.has] at hb;exact .f fun x hx=>ih x hx (AV.hasL_false hb x hx)
 | mp h0 h=>simp only[AV.has,List.contains_eq_mem,decide_eq_false_iff_not] at hb;exact .mp (Nat.lt_of_lt_of_le h0 he.len) (by rw[he.at_ _ h0 hb];exact h)
theorem WF.killed (h:WF w S ρ H x) (he:ExB b ρ H ρ' H') (hm:Mo w S w' S'):(killV (AV.den ρ H) b x).den ρ' H'=x.den ρ H∧WF w' S' ρ' H' (killV (AV.den ρ H) b x):=by
 unfold killV
 cases hb:x.has b with
 | true=>exact⟨rfl,.c (.s _)⟩
 | false=>exact⟨h.den_but hb he,h.but hb he hm⟩
theorem OwnB.killed {o:OB} {m:Option Nat} (h:OwnB w S ρ H o m) (he:ExB b ρ H ρ' H') (hm:Mo w S w' S') (hB:∀B,m=some B→w'.heap[B]?=w.heap[B]?) (hT:∀k B,o.hasP k B→w'.heap[B]?=w.heap[B]?):OwnB w' S' ρ' H' (killO (AV.den ρ H) b o) m:=by
 cases o with
 | pool l=>exact h.pool_ex hm hT
 | box l=>
  obtain⟨B,t,rfl,h1,h2⟩:=h
  refine⟨B,t,rfl, ?_,fun x hx=>?_⟩
  ·rw[hB B rfl,h1,List.map_map,List.map_congr_left (fun x hx=>((h2 x hx).1.killed he hm).1.symm)]
   rfl
  ·obtain⟨y,hy,rfl⟩:=List.mem_map.1 hx
   obtain⟨g1,g2⟩:=(h2 y hy).1.killed he hm
   exact⟨g2,by rw[g1];exact(h2 y hy).2⟩
 | arr e sz cap rows=>
  rcases h with h|⟨B,cs,rfl,h1,h2,hm2,h3,h4,h5⟩
  ·exact .inl h
  ·exact .inr ⟨B,cs,rfl,by rw[hB B rfl];exact h1,h2,hm2,h3,fun row hr=>⟨(h4 row hr).1,fun u hu=>⟨((h4 row hr).2 u hu).1.mono hm,((h4 row hr).2 u hu).2⟩⟩,h5⟩
 | dead=>trivial
 | eqv x v=>
  obtain⟨g1,g2⟩:=h.2.killed he hm
  exact⟨g1.trans h.1,g2⟩
 | map es ck=>
  obtain⟨B,ms,rfl,h1,h2,h3⟩:=h
  exact⟨B,ms,rfl,by rw[hB B rfl];exact h1,h2,fun e he'=>(h3 e he').mono hm⟩
 | itr q since seen last=>
  obtain⟨B,rfl,h1,h2,h3⟩:=h
  show OwnB w' S' ρ' H' (if b.contains q then .dead else .itr q since seen last) (some B)
  by_cases hq:q∈b
  ·rw[if_pos (by simpa using hq)];trivial
  ·rw[if_neg (by simpa using hq)]
   have hq':q∉b:=hq
   exact⟨B,rfl,by rw[hB B rfl,he.at_ q h2 hq'];exact h1,Nat.lt_of_lt_of_le h2 he.len,by rw[he.at_ q h2 hq'];exact h3⟩
 | sit s pos=>
  obtain⟨B,rfl,h1⟩:=h
  exact⟨B,rfl,by rw[hB B rfl];exact h1⟩
 | boxt t l=>
  obtain⟨B,rfl,h1,h2⟩:=h
  refine⟨B,rfl, ?_,fun x hx=>?_⟩
  ·rw[hB B rfl,h1,List.map_map,List.map_congr_left (fun x hx=>((h2 x hx).1.killed he hm).1.symm)]
   rfl
  ·obtain⟨y,hy,rfl⟩:=List.mem_map.1 hx
   obtain⟨g1,g2⟩:=(h2 y hy).1.killed he hm
   exact⟨g2,by rw[g1];exact(h2 y hy).2⟩
 | bts v l=>
  obtain⟨B,cs,e,n,rfl,h1,h2,h3⟩:=h
  exact⟨B,cs,e,n,rfl,h1,by rw[hB B rfl];exact h2,h3⟩
end
theorem zp2 {g:AV→Value} {b:List Nat} {i:Nat} {y:AV}:∀{F:Fm},(killF g b F).lookup i=some y→∃x,F.lookup i=some x∧y=killV g b x:=by
 intro F
 induction F with
 | nil=>intro h;cases h
 | cons e F ih=>
  intro h
  obtain⟨j,x⟩:=e
  simp only[killF,List.map_cons,List.lookup_cons] at h ⊢
  split at h
  ·injection h with h;exact⟨x,by simp[*],h.symm⟩
  ·obtain⟨x',h1,h2⟩:=ih h
   exact⟨x',by simp[*],h2⟩
theorem zR4 (g:AV→Value) (b:List Nat) (o:OB):(killO g b o).sz=o.sz:=by cases o <;> first|rfl|(simp only[killO];split <;> rfl)
theorem zU3 (g:AV→Value) (b:List Nat) (o:OB):(killO g b o).cap=o.cap:=by cases o <;> first|rfl|(simp only[killO];split <;> rfl)
theorem zL5 {g:AV→Value} {b:List Nat} {o:OB} {k B:Nat} (h:(killO g b o).hasP k B):o.hasP k B:=by
 obtain⟨l,e,h1,h2⟩:=h
 refine⟨l,e, ?_,h2⟩
 cases o <;> simp only[killO] at h1 <;> first|exact h1|cases h1|(split at h1 <;> cases h1)
theorem zs6 {g:AV→Value} {b:List Nat} {H:List OB} {i k B:Nat} (h:inP (H.map (killO g b)) i k B):inP H i k B:=by
 obtain⟨o,h1,h2⟩:=h
 rw[List.getElem?_map] at h1
 cases ho:H[i]? with
 | none=>rw[ho] at h1;cases h1
 | some o'=>
  rw[ho] at h1
  simp only[Option.map_some,Option.some.injEq] at h1
  subst h1
  exact⟨o',ho,zL5 h2⟩
theorem zA4 {e:TypeId} {sz cap:Nat} {rows:List (List CV)} {k B:Nat}:¬(OB.arr e sz cap rows).hasP k B:=fun h=>by obtain⟨l,h⟩:=zp1 h;cases h
theorem zT3 (g:AV→Value) (b:List Nat) (o:OB):(killO g b o).shp=o.shp:=by cases o <;> first|rfl|(simp only[killO];split <;> rfl)
def toV (rows:List (List CV)):List (List Value):=rows.map (List.map CV.den)
inductive Src (H:List OB) (sz:Nat):AV→List (List CV)→Prop where
 | own {b k m c cap:Nat} {e:TypeId} {rows news:List (List CV)} (h:H[b]?=some (.arr e sz cap rows)) (hn:(rows.drop k).take m=news) (hm:news.length=m):Src H sz (.o b k m c) news
 | ro {v:Value} {rows:List (List CV)} (hl:∀row∈rows,row.length=sz) (h1:∀row∈rows,∀u∈row,u.one=true):Src H sz (.c (.r v rows)) rows
section
variable {P:Program} {N:Nat} {E:Env} {F:Fm} {H:List OB} {o:Oper} {S:Nat→Prop} {ρ:List (Option Nat)} {a:Act} {w:World}
theorem R.src {v:AV} {sz:Nat} {news:List (List CV)} (hR:R N E S ρ F H a w) (hw:WF w S ρ H v) (hs:Src H sz v news):∃A c,v.den ρ H = .slice A news.length c∧Sl w 0 w.heap.size sz A (toV news)∧∀row∈news,row.length=sz∧∀u∈row,Good w S u∧u.den.oneCell'=true:=by
 cases hs with
 | @own b k m c cap e rows _ h hn hm=>
  have hsz:szAt H b=sz:=by unfold szAt;rw[h];rfl
  refine⟨_,c,by rw[AV.den,hm], ?_, ?_⟩
  ·intro hne
   rcases hR.hp.blk _ _ h with⟨_,_,rfl⟩|⟨B,cs,hB,hh,hcs,hmx,hrl,hrow,hcell⟩
   ·subst hn;simp[toV] at hne
   ·refine⟨B,k*sz,by rw[hB,hsz];rfl,Nat.zero_le _,hR.hp.lt _ _ hB,hR.hp.lt _ _ hB,fun i r hi j u hu=>?_⟩
    unfold toV at hi
    rw[List.getElem?_map] at hi
    cases hr:news[i]? with
    | none=>rw[hr] at hi;cases hi
    | some row=>
     rw[hr] at hi
     simp only[Option.map_some,Option.some.injEq] at hi
     subst hi
     rw[List.getElem?_map] at hu
     cases hy:row[j]? with
     | none=>rw[hy] at hu;cases hu
     | some y=>
      rw[hy] at hu
      simp only[Option.map_some,Option.some.injEq] at hu
      subst hu
      have hr':rows[k+i]?=some row:=by
       rw[←hn] at hr
       rw[List.getElem?_take] at hr
       split at hr
       ·rw[List.getElem?_drop] at hr;exact hr
       ·cases hr
      have:=hcell (k+i) j row y hr' hy
      rw[Nat.add_mul] at this
      unfold World.cell?
      rw[hh]
      simpa using this
  ·intro row hr
   rcases hR.hp.blk _ _ h with⟨_,_,rfl⟩|⟨B,cs,hB,hh,hcs,hmx,hrl,hrow,hcell⟩
   ·subst hn;simp at hr
   ·refine hrow row ?_
    rw[←hn] at hr
    exact List.mem_of_mem_drop (List.mem_of_mem_take hr)
 | @ro v rows hl h1=>
  cases hw with
  | c g=>
   cases g with
   | nil A c=>exact⟨A,c,rfl,fun h=>absurd rfl h,fun _ h=>by cases h⟩
   | r _ B off sz' n c hn hc hS hr hcell hg=>
    refine⟨_,c,by rw[hn];rfl,fun hne=>?_,fun row hrow=>⟨hl row hrow,fun u hu=>⟨hg row hrow u hu,(hg row hrow u hu).one (h1 row hrow u hu)⟩⟩⟩
    obtain⟨r0,hr0⟩:∃r,r∈news:=by
     cases news with
     | nil=>exact absurd rfl hne
     | cons r l=>exact⟨r,by simp⟩
    have hss:sz'=sz:=by rw[←hr r0 hr0,hl r0 hr0]
    subst hss
    refine⟨B,off,rfl,Nat.zero_le _,hR.hp.sS _ hS,hR.hp.sS _ hS,fun i r hi j u hu=>?_⟩
    unfold toV at hi
    rw[List.getElem?_map] at hi
    cases hr:news[i]? with
    | none=>rw[hr] at hi;cases hi
    | some row=>
     rw[hr] at hi
     simp only[Option.map_some,Option.some.injEq] at hi
     subst hi
     rw[List.getElem?_map] at hu
     cases hy:row[j]? with
     | none=>rw[hy] at hu;cases hu
     | some y=>
      rw[hy] at hu
      simp only[Option.map_some,Option.some.injEq] at hu
      subst hu
      exact hcell i j row y hr hy
theorem zz3 {sz:Nat} {cs:Array Value}:∀(rows:List (List CV)) (k0:Nat),(∀row∈rows,row.length=sz)→(k0+rows.length)*sz≤cs.size→(∀(k j:Nat) (row:List CV) (u:CV),rows[k]?=some row→row[j]?=some u→cs[(k0+k)*sz+j]?=some u.den) →
    (cs.toList.drop (k0*sz)).take (rows.length*sz)=(toV rows).flatten
 | [],k0,_,_,_=>by simp[toV]
 | row :: rows,k0,hl,hsz,h=>by
  have hr:=hl row (by simp)
  rw[List.length_cons] at hsz
  have ih:=zz3 rows (k0+1) (fun r hr=>hl r (by simp[hr])) (by rw[show k0+1+rows.length=k0+(rows.length+1) from by omega];exact hsz) (fun k j row' u hk hj=>by
   have:=h (k+1) j row' u (by simpa using hk) hj
   rw[show k0+1+k=k0+(k+1) from by omega];exact this)
  have hfit:k0*sz+sz≤cs.size:=by
   have:(k0+1)*sz≤(k0+(rows.length+1))*sz:=Nat.mul_le_mul_right sz (by omega)
   rw[Nat.add_mul] at this;omega
  rw[List.length_cons,Nat.add_mul,Nat.one_mul,Nat.add_comm (rows.length*sz) sz,List.take_add,List.drop_drop]
  rw[show toV (row :: rows)=row.map CV.den :: toV rows from rfl,List.flatten_cons]
  rw[show k0*sz+sz=(k0+1)*sz from by rw[Nat.add_mul];omega,ih]
  congr 1
  refine List.ext_getElem? fun j=>?_
  rw[List.getElem?_take,List.getElem?_map]
  split
  ·rename_i hj
   have hjr:j < row.length:=by omega
   have:=h 0 j row row[j] rfl (List.getElem?_eq_getElem hjr)
   rw[Nat.add_zero] at this
   rw[List.getElem?_drop,Array.getElem?_toList,this,List.getElem?_eq_getElem hjr]
   rfl
  ·rw[List.getElem?_eq_none (by omega)];rfl
theorem za3 {sz:Nat} {rows:List (List CV)} (h:∀row∈rows,row.length=sz):∀r∈toV rows,r.length=sz:=fun r hr=>by
 obtain⟨row,hrow,rfl⟩:=List.mem_map.1 hr
 simpa using h row hrow
theorem zK9 {e:TypeId} {sz cap b:Nat} {rows:List (List CV)} (h:RH w S ρ H) (hH:H[b]?=some (.arr e sz cap rows)):Own w 0 e sz ((AV.o b 0 rows.length cap).den ρ H) (toV rows):=by
 have hsz:szAt H b=sz:=by unfold szAt;rw[hH];rfl
 rcases h.blk _ _ hH with⟨hn,rfl,rfl⟩|⟨B,cs,hB,hh,hcs,hmx,hrl,hrow,hcell⟩
 ·refine⟨⟨by simp[toV],.inl ⟨?_,rfl⟩⟩,fun r hr=>by cases hr⟩
  rw[AV.den,hn];rfl
 ·have hl:∀row∈rows,row.length=sz:=fun row hr=>(hrow row hr).1
  have hcap:rows.length*sz≤cap*sz:=Nat.mul_le_mul_right sz hrl
  refine⟨⟨?_,.inr ⟨B,cap,cs, ?_,Nat.zero_le _,hh,by simpa [toV] using hrl,hmx,hcs, ?_⟩⟩,za3 hl⟩
  ·have:∀l:List (List Value),(∀r∈l,r.length=sz)→l.flatten.length=l.length*sz:=by
    intro l;induction l with
    | nil=>intro _;simp
    | cons x l ih=>intro h;rw[List.flatten_cons,List.length_append,ih (fun r hr=>h r (by simp[hr])),h x (by simp),List.length_cons,Nat.add_mul];omega
   exact this _ (za3 hl)
  ·rw[AV.den,hB,hsz];simp[toV]
  ·have:=zz3 (cs:=cs) rows 0 hl (by rw[Nat.zero_add];omega) (fun k j row u hk hj=>by rw[Nat.zero_add];exact hcell k j row u hk hj)
   simpa [toV] using this
theorem zH4 {sz:Nat} {xs:List Value}:∀(rows:List (List CV)),(∀row∈rows,row.length=sz)→xs=(toV rows).flatten→∀(k j:Nat) (row:List CV) (u:CV),rows[k]?=some row→row[j]?=some u→xs[k*sz+j]?=some u.den:=fun rows hl hx k j row u hk hj=>by
 rw[hx]
 exact zc2 (toV rows) (za3 hl) k (row.map CV.den) (by simp[toV,hk]) j u.den (by simp[hj])
theorem ef_app {t e:TypeId} {sz d b n cap:Nat} {s x:Operand} {v:AV} {rows news:List (List CV)} (ho:o.op = .call { callee:=.builtin .append,args:=#[s,x],argTypes:=#[t,t] }) (hd:o.dst=some d) (hN:d < N) (hE:ElemTy P t e sz)
    (hs:ev F s=some (.o b 0 n cap)) (hH:H[b]?=some (.arr e sz cap rows)) (hn:n=rows.length) (hx:ev F x=some v) (hsrc:Src H sz v news) (hle:n+news.length≤1073741824) (hpin:(∃q,E.H0.length=q∧Nat.ble q b=true)∨E.pin=false:=by first|exact Or.inl ⟨_,by assumption,rfl⟩|exact Or.inr (by assumption)) :
    Ef P N E o F H fun F' H'=>∃g c2,n+news.length≤c2∧F'=(d,.o b 0 (n+news.length) c2) :: killF g [b] F∧H'=(H.map (killO g [b])).set b (.arr e sz c2 (rows++news)):=fun S ρ a w hR=>by
 subst hn
 obtain⟨g1,_⟩:=hR.ev hs
 obtain⟨g3,g4⟩:=hR.ev hx
 obtain⟨A,c,hv,hsl,hnews⟩:=hR.src g4 hsrc
 have hown:=zK9 hR.hp hH
 obtain⟨v',w',hrun,hO,hg,hat⟩:=zw10 (P:=P) (ty:=o.type) hE hown (m:=news.length) (news:=toV news) (c:=c) (by simp[toV]) hsl (za3 fun row hr=>(hnews row hr).1) (fun r hr u hu=>by
  obtain⟨row,hrow,rfl⟩:=List.mem_map.1 hr
  obtain⟨y,hy,rfl⟩:=List.mem_map.1 hu
  exact((hnews row hrow).2 y hy).2) (by simpa [toV] using hle) (Nat.zero_le _)
 obtain⟨A2,c2,hv',hc2,-⟩:=hO.form
 have hblt:b < H.length:=(List.getElem?_eq_some_iff.1 hH).1
 have hlen:(toV rows++toV news).length=rows.length+news.length:=by simp[toV]
 have hob:((AV.o b 0 rows.length cap).den ρ H).ownBlock=atB ρ b:=by rw[AV.den];cases atB ρ b <;> rfl
 rw[hob] at hg hat
 have he:ExB [b] ρ H (ρ.set b v'.ownBlock) ((H.map (killO (AV.den ρ H) [b])).set b (.arr e sz c2 (rows++news))):=by
  refine⟨fun i hi hne=>?_,fun i hi hne=>?_,fun i hi hne=>?_,by simp⟩
  all_goals replace hne:i≠b:=by simpa using hne
  ·unfold atB;rw[List.getElem?_set_ne (Ne.symm hne)]
  ·unfold szAt;rw[List.getElem?_set_ne (Ne.symm hne),List.getElem?_map,List.getElem?_eq_getElem hi];simp[zR4]
  ·unfold capAt;rw[List.getElem?_set_ne (Ne.symm hne),List.getElem?_map,List.getElem?_eq_getElem hi];simp[zU3]
 have hm:Mo w S w' S:=fun k hk=>⟨hk,hg.block k (hR.hp.sS k hk) (fun e=>hR.hp.ap b k e.symm hk)⟩
 have hatb:∀i,atB (ρ.set b v'.ownBlock) i=if i=b then v'.ownBlock else atB ρ i:=fun i=>by
  unfold atB
  rw[List.getElem?_set]
  by_cases hi:b=i
  ·subst hi;simp[hR.hp.len,hblt]
  ·simp[hi,Ne.symm hi]
 have hsub:∀i B,atB (ρ.set b v'.ownBlock) i=some B→(atB ρ i=some B)∨(i=b∧B=w.heap.size∧w.heap.size < w'.heap.size):=fun i B hi=>by
  rw[hatb] at hi
  by_cases hib:i=b
  ·subst hib
   rw[if_pos rfl] at hi
   rcases hat with h|h
   ·exact .inl (h▸hi)
   ·refine .inr ⟨rfl, ?_, ?_⟩
    ·rw[hi] at h;injection h
    ·obtain⟨_,hlt⟩:=hO.lt w.heap.size h;exact hlt
  ·rw[if_neg hib] at hi;exact .inl hi
 have hnl:∀row∈rows++news,row.length=sz∧∀u∈row,Good w S u∧u.den.oneCell'=true:=fun row hr=>by
  rcases List.mem_append.1 hr with hr|hr
  ·rcases hR.hp.blk _ _ hH with⟨_,_,rfl⟩|⟨B,cs,hB,hh,hcs,hmx,hrl,hrow,hcell⟩
   ·cases hr
   ·exact hrow row hr
  ·exact hnews row hr
 have hin:∀i k B,inP ((H.map (killO (AV.den ρ H) [b])).set b (.arr e sz c2 (rows++news))) i k B→inP H i k B:=fun i k B hi=>zs6 (zr6 (fun _ _=>zA4) hi)
 unfold effO
 have hex:(execOp a.eval o).run P w = .ok (.value v') w':=by
  unfold execOp
  simp only[ho,resolve,invoke,builtin,Sem.run_bind,Sem.run_pure,Result.andThen_ok,List.map_toArray,List.map_cons,List.map_nil,g1,g3,hv,hrun]
 rw[hex]
 have hden:(AV.o b 0 (rows.length+news.length) c2).den (ρ.set b v'.ownBlock) ((H.map (killO (AV.den ρ H) [b])).set b (.arr e sz c2 (rows++news)))=v':=by
  rw[AV.den,hatb,if_pos rfl]
  rcases hO.1.2 with⟨h1,h2⟩|⟨g,cap',cur,h1,_,_,_,_,_⟩
  ·rw[h1] at hv' ⊢
   injection hv' with h3 h4 h5
   rw[hlen] at h4
   simp[Value.ownBlock,←h4,←h5]
  ·rw[h1] at hv' ⊢
   injection hv' with h3 h4 h5
   subst h5
   simp[Value.ownBlock,hlen]
 refine⟨S,ρ.set b v'.ownBlock,_,_,⟨AV.den ρ H,c2,by rw[←hlen];exact hc2,rfl,rfl⟩, ?_⟩
 rw[hd]
 show R N E S _ _ _ (a.put (some d) v') w'
 have hR':R N E S (ρ.set b v'.ownBlock) (killF (AV.den ρ H) [b] F) ((H.map (killO (AV.den ρ H) [b])).set b (.arr e sz c2 (rows++news))) a w':=by
  refine⟨hR.df,hR.sz,fun i y hy=>?_,⟨by simpa using hR.hp.len,fun i i' B hi hi'=>?_,fun i B hi hS=>?_,fun i B hi=>?_,fun k hk=>Nat.lt_of_lt_of_le (hR.hp.sS k hk) hg.size,fun i y hy=>?_,hR.hp.pl.mono hin (fun B hB=>.inl hB) (fun j B hj=>?_) hg.size⟩, ?_,fun i B hi=>?_,hR.nS,fun i k B hi=>hR.pw i k B (hin i k B hi),fun i hi=>?_,fun hpp i hi=>?_⟩
  rotate_left 5
  ·rcases hsub j B hj with h|⟨_,h,_⟩
   ·exact .inl ⟨j,h⟩
   ·exact .inr (by omega)
  rotate_right 5
  ·obtain⟨y',h1,rfl⟩:=zp2 hy
   obtain⟨h2,h3⟩:=hR.fr i y' h1
   obtain⟨h4,h5⟩:=h3.killed he hm
   exact⟨by rw[h4];exact h2,h5⟩
  ·rcases hsub i B hi with h|⟨h,h1,_⟩ <;> rcases hsub i' B hi' with h'|⟨h',h1',_⟩
   ·exact hR.hp.nd i i' B h h'
   ·have:=hR.hp.lt i B h;omega
   ·have:=hR.hp.lt i' B h';omega
   ·omega
  ·rcases hsub i B hi with h|⟨h,h1,_⟩
   ·exact hR.hp.ap i B h hS
   ·have:=hR.hp.sS B hS;omega
  ·rcases hsub i B hi with h|⟨h,h1,h2⟩
   ·exact Nat.lt_of_lt_of_le (hR.hp.lt i B h) hg.size
   ·omega
  ·rw[List.getElem?_set] at hy
   split at hy
   ·rename_i hbi
    subst hbi
    split at hy
    ·injection hy with hy
     subst hy
     rw[hatb,if_pos rfl]
     rcases hO.1.2 with⟨h1,h2⟩|⟨g,cap',cur,h1,h0,h2,h3,h4,h5,h6⟩
     ·refine .inl ⟨by rw[h1];rfl, ?_, ?_⟩
      ·rw[h1] at hv';injection hv' with _ _ h5;exact h5.symm
      ·have:(rows++news).length=0:=by rw[hlen] at h2;simpa using h2
       exact List.eq_nil_of_length_eq_zero this
     ·have hcc:cap'=c2:=by rw[h1] at hv';injection hv'
      subst hcc
      refine .inr ⟨g,cur,by rw[h1];rfl,h2,h5,h4,by rw[hlen] at h3;simpa using h3,fun row hr=>⟨(hnl row hr).1,fun u hu=>⟨((hnl row hr).2 u hu).1.mono hm,((hnl row hr).2 u hu).2⟩⟩,fun k j row u hk hj=>?_⟩
      have h7:=zH4 (rows++news) (fun row hr=>(hnl row hr).1) (xs:=cur.toList.take ((toV rows++toV news).length*sz)) (by rw[h6];simp[toV]) k j row u hk hj
      rw[List.getElem?_take] at h7
      split at h7
      ·rw[←Array.getElem?_toList];exact h7
      ·cases h7
    ·cases hy
   ·rename_i hbi
    rw[List.getElem?_map] at hy
    cases hz:H[i]? with
    | none=>rw[hz] at hy;cases hy
    | some ob=>
     rw[hz] at hy
     simp only[Option.map_some,Option.some.injEq] at hy
     subst hy
     rw[hatb,if_neg (Ne.symm hbi)]
     exact(hR.hp.blk i ob hz).killed he hm (fun B hB=>hg.block B (hR.hp.lt i B hB) (fun e=>hbi (hR.hp.nd _ _ _ e.symm hB))) (fun k B hB=>by
      obtain⟨_,q2,q3⟩:=hR.hp.pl.ps i k B ⟨ob,hz,hB⟩
      exact hg.block B q3 (fun e=>q2 b e.symm))
  ·refine hR.st.trans (T:=fun k=>atB ρ b=some k) ⟨hg.os,hg.tape,hg.output,hg.size,fun k hk hne=>hg.block k hk (fun e=>hne e.symm),zc3 _ _ hrun⟩ (fun k hk hT=>?_)
   rcases hR.nw b k hT with(h|h)|h
   ·omega
   ·exact .inr h
   ·exact .inl ⟨_,h.2⟩
  ·rcases hsub i B hi with h|⟨h,h1,h2⟩
   ·exact hR.nw i B h
   ·exact .inl (.inl (by rw[h1];exact hR.st.size))
  ·obtain⟨h1,h2⟩:=hR.ln i hi
   refine⟨by simpa using h1,fun o ho hs=>?_⟩
   obtain⟨h3,o',h4,h5⟩:=h2 o ho hs
   have hne:i≠b:=fun e=>by rw[e,hH] at h4;injection h4 with h4;subst h4;exact hs h5.symm
   exact⟨by rw[hatb,if_neg hne];exact h3,killO (AV.den ρ H) [b] o',by rw[List.getElem?_set_ne (Ne.symm hne),List.getElem?_map,h4];rfl,by rw[zT3];exact h5⟩
  ·have hne:i≠b:=fun e=>by
    rcases hpin with⟨q,h1,h2⟩|h1
    ·have:=Nat.le_of_ble_eq_true h2;omega
    ·rw[h1] at hpp;cases hpp
   have hil:=(hR.ln i hi).1
   obtain⟨h1,h2,h3⟩:=hR.pn hpp i hi
   exact⟨by rw[hatb,if_neg hne];exact h1,by rw[he.sz i hil (by simpa using hne)];exact h2,by rw[he.cap i hil (by simpa using hne)];exact h3⟩
 have hfin:=hR'.put (d:=d) (x:=.o b 0 (rows.length+news.length) c2) hN (.o (by simpa using hblt) (by rw[←hlen];exact hc2) (by simp[capAt,hblt,OB.cap]) (fun h=>by
  rw[hatb,if_pos rfl] at h
  rcases hO.1.2 with⟨h1,h2⟩|⟨g,cap',cur,h1,_⟩
  ·rw[hlen] at h2
   rw[h1] at hv'
   injection hv' with _ h4 h5
   exact⟨h2,h5.symm⟩
  ·rw[h1] at h;cases h))
 rw[hden] at hfin
 exact hfin
end
end
end Go.Proofs.YtophoepbedlhjaaGreatDoor
