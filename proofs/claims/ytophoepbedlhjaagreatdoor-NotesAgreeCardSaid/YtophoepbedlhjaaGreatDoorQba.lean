/- strings.Builder, by value: WriteByte, String. -/
import Derived.Test.YtophoepbedlhjaaGreatDoorQak
import Derived.Lib.AppendStr
import Derived.Test.YtophoepbedlhjaaGreatDoorQan
import Derived.Test.YtophoepbedlhjaaGreatDoorQas
import Derived.Test.YtophoepbedlhjaaGreatDoorQaw
import Derived.Test.YtophoepbedlhjaaGreatDoorQar
import Derived.Test.YtophoepbedlhjaaGreatDoorQal
import Derived.Lib.UnsafeStr
import Derived.Laws.Pointers
import Derived.LaidEqlPtr
import Derived.Laws.LoneSync
set_option linter.unusedSimpArgs false
set_option linter.unusedVariables false
namespace Go.Proofs.YtophoepbedlhjaaGreatDoor
open Go Go.RowKit
section
variable {P:Program} {N:Nat} {E:Env} {F:Fm} {H:List OB} {o:Oper} {S:Nat→Prop} {ρ:List (Option Nat)} {a:Act} {w:World}
theorem zA13 {base:Nat} {t u e ty:TypeId} (ht:P.underlying t=some (.slice e)) (hu:P.underlying u=some .string) (hi:∃i:TypeInfo,P.info? e=some i∧i.zero=some (.int .u8 0)∧i.size=1∧i.bytes=1) {v:Value} {n:Nat} {xs:List Value} (hown:w.ownsRow base e 1 v n xs) (s:ByteArray) (h63:n+s.size≤1073741824) (hbase:base≤w.heap.size) :
    ∃v' w',(Builtin.append_ #[t,u] ty #[v,.string s]).run P w = .ok v' w'∧w'.ownsRow base e 1 v' (n+s.size) (xs++Lib.strCells s)∧w.grownBy w' v.ownBlock∧(v'.ownBlock=v.ownBlock∨v'.ownBlock=some w.heap.size):=by
 obtain⟨i,hi,hz,hs,hby⟩:=hi
 obtain⟨v',w',hrun,h2,h3,h4⟩:=Lib.run_append_own_string (P:=P) w base t u ty e i ht hu hi hz hs hby v n xs hown s (by simp only[maxLen];omega) (by omega) hbase
 refine⟨v',w',hrun,h2,h3, ?_⟩
 have inj:∀{x y:Value} {w1 w2:World},(Result.ok x w1:Result Value) = .ok y w2→x=y:=fun h=>by injection h
 rcases hown.2 with⟨rfl,rfl⟩|⟨g,cap,cur,rfl,hbg,hg,hnc,hcm,hcs,htake⟩
 ·by_cases hm:s.size=0
  ·left
   rw[h4.2 ⟨rfl,hm⟩]
  ·right
   have hr:=run_append_nil_string (P:=P) w t u ty e i (.int .u8 0) ht hu hi hz s (by omega) (by omega) (by rw[hby];omega)
   rw[←inj (hr.symm.trans hrun)]
   rfl
 ·by_cases hroom:n+s.size≤cap
  ·left
   have hr:=Lib.run_append_room_string (P:=P) w t u ty e i ht hu hi hs g n cap cur hg s hroom (by omega)
   rw[←inj (hr.symm.trans hrun)]
   rfl
  ·right
   have hxl:xs.length=n:=by simpa using hown.1
   have holds:∀j u,xs[j]?=some u→w.cell? ((⟨g,0,none⟩:Addr).add j)=some u:=hown.cells (g:=g) rfl
   have hr:=Lib.run_append_grow_string (P:=P) w t u ty e i (.int .u8 0) ht hu hi hz ⟨g,0,none⟩ n cap xs (by rw[hs];simpa using hxl) holds s (by omega) (by omega) (by rw[hby];exact growslice_fits (by omega) (by omega))
   rw[←inj (hr.symm.trans hrun)]
   rfl
theorem zd4:∀l:List UInt8,(l.map fun b=>Value.int .u8 b.toNat)=(l.map ((List.map CV.den) ∘ fun c:UInt8=>[CV.s (.int .u8 c.toNat)])).flatten
 | []=>rfl
 | c :: l=>by rw[List.map_cons,zd4 l];rfl
theorem zh16 {t t2 e:TypeId} {d b n cap:Nat} {s x:Operand} {l:List UInt8} {rows:List (List CV)} (ho:o.op = .call { callee:=.builtin .append,args:=#[s,x],argTypes:=#[t,t2] }) (hd:o.dst=some d) (hN:d < N) (ht:P.underlying t=some (.slice e)) (hu:P.underlying t2=some .string) (hi:∃i:TypeInfo,P.info? e=some i∧i.zero=some (.int .u8 0)∧i.size=1∧i.bytes=1)
    (hs:ev F s=some (.o b 0 n cap)) (hH:H[b]?=some (.arr e 1 cap rows)) (hn:n≤rows.length) (hx:ev F x=some (.c (.s (.string ⟨l.toArray⟩)))) (hle:n+l.length≤1073741824) (hpin:(∃q,E.H0.length=q∧Nat.ble q b=true)∨E.pin=false:=by first|exact Or.inl ⟨_,by assumption,rfl⟩|exact Or.inr (by assumption)) :
    Ef P N E o F H fun F' H'=>∃g c2,n+l.length≤c2∧F'=(d,.o b 0 (n+l.length) c2) :: killF g [b] F∧H'=(H.map (killO g [b])).set b (.arr e 1 c2 (rows.take n++l.map fun c=>[.s (.int .u8 c.toNat)])):=fun S ρ a w hR=>by
 have hln:(rows.take n).length=n:=by simp;omega
 obtain⟨news,hnw⟩:∃news:List (List CV),news=l.map fun c=>[.s (.int .u8 c.toNat)]:=⟨_,rfl⟩
 have hnl0:l.length=news.length:=by rw[hnw,List.length_map]
 have hnews:∀row∈news,row.length=1∧∀u∈row,Good w S u∧u.den.oneCell'=true:=fun row hr=>by
  rw[hnw] at hr
  obtain⟨c,_,rfl⟩:=List.mem_map.1 hr
  exact⟨rfl,fun u hu=>by rw[List.mem_singleton] at hu;subst hu;exact⟨.s _,rfl⟩⟩
 rw[←hnw,hnl0]
 rw[hnl0] at hle
 obtain⟨g1,_⟩:=hR.ev hs
 obtain⟨g3,_⟩:=hR.ev hx
 have hown:=zk6 hR.hp hH hn
 have hsz:(⟨l.toArray⟩:ByteArray).size=news.length:=by rw[←hnl0];show l.toArray.size=_;simp
 have htl:(toV (rows.take n)).length=n:=by simp[toV];omega
 have hst:Lib.strCells ⟨l.toArray⟩=(toV news).flatten:=by
  rw[hnw]
  unfold Lib.strCells toV
  simp only[List.map_map]
  exact zd4 l
 have g3:a.eval x = .string ⟨l.toArray⟩:=g3
 obtain⟨v',w',hrun,hO',hg,hat⟩:=zA13 (P:=P) (ty:=o.type) ht hu hi hown.1 ⟨l.toArray⟩ (by rw[hsz,htl];exact hle) (Nat.zero_le _)
 have hO:Own w' 0 e 1 v' (toV (rows.take n)++toV news):=by
  refine⟨?_,fun r hr=>?_⟩
  ·rw[hst,hsz,←List.flatten_append] at hO'
   rwa [List.length_append,show (toV news).length=news.length by simp[toV]]
  ·rcases List.mem_append.1 hr with hr|hr
   ·exact hown.2 r hr
   ·obtain⟨row,hrow,rfl⟩:=List.mem_map.1 hr
    rw[List.length_map]
    exact(hnews row hrow).1
 obtain⟨A2,c2,hv',hc2,-⟩:=hO.form
 have hblt:b < H.length:=(List.getElem?_eq_some_iff.1 hH).1
 have hlen:(toV (rows.take n)++toV news).length=n+news.length:=by simp[toV];omega
 have hob:((AV.o b 0 n cap).den ρ H).ownBlock=atB ρ b:=by rw[AV.den];cases atB ρ b <;> rfl
 rw[hob] at hg hat
 have he:ExB [b] ρ H (ρ.set b v'.ownBlock) ((H.map (killO (AV.den ρ H) [b])).set b (.arr e 1 c2 (rows.take n++news))):=by
  refine⟨fun i hi hne=>?_,fun i hi hne=>?_,fun i hi hne=>?_,by simp⟩
  all_goals replace hne:i≠b:=by simpa using hne
  ·unfold atB;rw[List.getElem?_set_ne (Ne.symm hne)]
  ·unfold szAt;rw[List.getElem?_set_ne (Ne.symm hne),List.getElem?_map,List.getElem?_eq_getElem hi];simp[zt3]
  ·unfold capAt;rw[List.getElem?_set_ne (Ne.symm hne),List.getElem?_map,List.getElem?_eq_getElem hi];simp[zG2]
 have hm:Mo w S w' S:=fun k hk=>⟨hk,hg.block k (hR.hp.sS k hk) (fun e=>hR.hp.ap b k e.symm hk)⟩
 have hatb:∀i,atB (ρ.set b v'.ownBlock) i=if i=b then v'.ownBlock else atB ρ i:=fun i=>by
  unfold atB
  rw[List.getElem?_set]
  by_cases hi:b=i
  ·subst hi;simp[hR.hp.len,hblt]
  ·simp[hi,Ne.symm hi]
 have hsub:∀i B,atB (ρ.set b v'.ownBlock) i=some B→(atB ρ i=some B)∨(i=b∧B=w.heap.size∧w.heap.size < w'.heap.size):=fun i B hi=>by
  rw[hatb] at hi
  by_cases hib:i=b
  ·subst hib
   rw[if_pos rfl] at hi
   rcases hat with h|h
   ·exact .inl (h▸hi)
   ·refine .inr ⟨rfl, ?_, ?_⟩
    ·rw[hi] at h;injection h
    ·obtain⟨_,hlt⟩:=hO.lt w.heap.size h;exact hlt
  ·rw[if_neg hib] at hi;exact .inl hi
 have hnl:∀row∈rows.take n++news,row.length=1∧∀u∈row,Good w S u∧u.den.oneCell'=true:=fun row hr=>by
  rcases List.mem_append.1 hr with hr|hr
  ·rcases hR.hp.blk _ _ hH with⟨_,_,rfl⟩|⟨B,cs,hB,hh,hcs,hmx,hrl,hrow,hcell⟩
   ·simp at hr
   ·exact hrow row (List.mem_of_mem_take hr)
  ·exact hnews row hr
 unfold effO
 have hex:(execOp a.eval o).run P w = .ok (.value v') w':=by
  unfold execOp
  simp only[ho,resolve,invoke,builtin,Sem.run_bind,Sem.run_pure,Result.andThen_ok,List.map_toArray,List.map_cons,List.map_nil,g1,g3,hrun]
 rw[hex]
 have hden:(AV.o b 0 (n+news.length) c2).den (ρ.set b v'.ownBlock) ((H.map (killO (AV.den ρ H) [b])).set b (.arr e 1 c2 (rows.take n++news)))=v':=by
  rw[AV.den,hatb,if_pos rfl]
  rcases hO.1.2 with⟨h1,h2⟩|⟨g,cap',cur,h1,_,_,_,_,_⟩
  ·rw[h1] at hv' ⊢
   injection hv' with h3 h4 h5
   rw[hlen] at h4
   simp[Value.ownBlock,←h4,←h5]
  ·rw[h1] at hv' ⊢
   injection hv' with h3 h4 h5
   subst h5
   simp[Value.ownBlock,hlen]
 have hin:∀i k B,inP ((H.map (killO (AV.den ρ H) [b])).set b (.arr e 1 c2 (rows.take n++news))) i k B→inP H i k B:=fun i k B hi=>zl4 (zx4 (fun _ _=>zA3) hi)
 refine⟨S,ρ.set b v'.ownBlock,_,_,⟨AV.den ρ H,c2,by rw[←hlen];exact hc2,rfl,rfl⟩, ?_⟩
 rw[hd]
 show R N E S _ _ _ (a.put (some d) v') w'
 have hR':R N E S (ρ.set b v'.ownBlock) (killF (AV.den ρ H) [b] F) ((H.map (killO (AV.den ρ H) [b])).set b (.arr e 1 c2 (rows.take n++news))) a w':=by
  refine⟨hR.df,hR.sz,fun i y hy=>?_,⟨by simpa using hR.hp.len,fun i i' B hi hi'=>?_,fun i B hi hS=>?_,fun i B hi=>?_,fun k hk=>Nat.lt_of_lt_of_le (hR.hp.sS k hk) hg.size,fun i y hy=>?_,hR.hp.pl.mono hin (fun B hB=>.inl hB) (fun j B hj=>?_) hg.size⟩, ?_,fun i B hi=>?_,hR.nS,fun i k B hi=>hR.pw i k B (hin i k B hi),fun i hi=>?_,fun hpp i hi=>?_⟩
  rotate_left 5
  ·rcases hsub j B hj with h|⟨_,h,_⟩
   ·exact .inl ⟨j,h⟩
   ·exact .inr (by omega)
  rotate_right 5
  ·obtain⟨y',h1,rfl⟩:=zy1 hy
   obtain⟨h2,h3⟩:=hR.fr i y' h1
   obtain⟨h4,h5⟩:=h3.killed he hm
   exact⟨by rw[h4];exact h2,h5⟩
  ·rcases hsub i B hi with h|⟨h,h1,_⟩ <;> rcases hsub i' B hi' with h'|⟨h',h1',_⟩
   ·exact hR.hp.nd i i' B h h'
   ·have:=hR.hp.lt i B h;omega
   ·have:=hR.hp.lt i' B h';omega
   ·omega
  ·rcases hsub i B hi with h|⟨h,h1,_⟩
   ·exact hR.hp.ap i B h hS
   ·have:=hR.hp.sS B hS;omega
  ·rcases hsub i B hi with h|⟨h,h1,h2⟩
   ·exact Nat.lt_of_lt_of_le (hR.hp.lt i B h) hg.size
   ·omega
  ·rw[List.getElem?_set] at hy
   split at hy
   ·rename_i hbi
    subst hbi
    split at hy
    ·injection hy with hy
     subst hy
     rw[hatb,if_pos rfl]
     rcases hO.1.2 with⟨h1,h2⟩|⟨g,cap',cur,h1,h0,h2,h3,h4,h5,h6⟩
     ·refine .inl ⟨by rw[h1];rfl, ?_, ?_⟩
      ·rw[h1] at hv';injection hv' with _ _ h5;exact h5.symm
      ·have:(rows.take n++news).length=0:=by rw[hlen] at h2;rw[List.length_append,hln];omega
       exact List.eq_nil_of_length_eq_zero this
     ·have hcc:cap'=c2:=by rw[h1] at hv';injection hv'
      subst hcc
      refine .inr ⟨g,cur,by rw[h1];rfl,h2,h5,h4,by rw[hlen] at h3;rw[List.length_append,hln];exact h3,fun row hr=>⟨(hnl row hr).1,fun u hu=>⟨((hnl row hr).2 u hu).1.mono hm,((hnl row hr).2 u hu).2⟩⟩,fun k j row u hk hj=>?_⟩
      have h7:=zj3 (rows.take n++news) (fun row hr=>(hnl row hr).1) (xs:=cur.toList.take ((toV (rows.take n)++toV news).length*1)) (by rw[h6];simp[toV]) k j row u hk hj
      rw[List.getElem?_take] at h7
      split at h7
      ·rw[←Array.getElem?_toList];exact h7
      ·cases h7
    ·cases hy
   ·rename_i hbi
    rw[List.getElem?_map] at hy
    cases hz:H[i]? with
    | none=>rw[hz] at hy;cases hy
    | some ob=>
     rw[hz] at hy
     simp only[Option.map_some,Option.some.injEq] at hy
     subst hy
     rw[hatb,if_neg (Ne.symm hbi)]
     exact(hR.hp.blk i ob hz).killed he hm (fun B hB=>hg.block B (hR.hp.lt i B hB) (fun e=>hbi (hR.hp.nd _ _ _ e.symm hB))) (fun k B hB=>by
      obtain⟨_,q2,q3⟩:=hR.hp.pl.ps i k B ⟨ob,hz,hB⟩
      exact hg.block B q3 (fun e=>q2 b e.symm))
  ·refine hR.st.trans (T:=fun k=>atB ρ b=some k) ⟨hg.os,hg.tape,hg.output,hg.size,fun k hk hne=>hg.block k hk (fun e=>hne e.symm),zz2 _ _ hrun⟩ (fun k hk hT=>?_)
   rcases hR.nw b k hT with(h|h)|h
   ·omega
   ·exact .inr h
   ·exact .inl ⟨_,h.2⟩
  ·rcases hsub i B hi with h|⟨h,h1,h2⟩
   ·exact hR.nw i B h
   ·exact .inl (.inl (by rw[h1];exact hR.st.size))
  ·obtain⟨h1,h2⟩:=hR.ln i hi
   refine⟨by simpa using h1,fun o ho hs=>?_⟩
   obtain⟨h3,o',h4,h5⟩:=h2 o ho hs
   have hne:i≠b:=fun e=>by rw[e,hH] at h4;injection h4 with h4;subst h4;exact hs h5.symm
   exact⟨by rw[hatb,if_neg hne];exact h3,killO (AV.den ρ H) [b] o',by rw[List.getElem?_set_ne (Ne.symm hne),List.getElem?_map,h4];rfl,by rw[zF2];exact h5⟩
  ·have hne:i≠b:=fun e=>by
    rcases hpin with⟨q,h1,h2⟩|h1
    ·have:=Nat.le_of_ble_eq_true h2;omega
    ·rw[h1] at hpp;cases hpp
   have hil:=(hR.ln i hi).1
   obtain⟨h1,h2,h3⟩:=hR.pn hpp i hi
   exact⟨by rw[hatb,if_neg hne];exact h1,by rw[he.sz i hil (by simpa using hne)];exact h2,by rw[he.cap i hil (by simpa using hne)];exact h3⟩
 have hfin:=hR'.put (d:=d) (x:=.o b 0 (n+news.length) c2) hN (.o (by simpa using hblt) (by rw[←hlen];exact hc2) (by simp[capAt,hblt,OB.cap]) (fun h=>by
  rw[hatb,if_pos rfl] at h
  rcases hO.1.2 with⟨h1,h2⟩|⟨g,cap',cur,h1,_⟩
  ·rw[hlen] at h2
   rw[h1] at hv'
   injection hv' with _ h4 h5
   exact⟨h2,h5.symm⟩
  ·rw[h1] at h;cases h))
 rw[hden] at hfin
 exact hfin
end
end Go.Proofs.YtophoepbedlhjaaGreatDoor
namespace Go.Proofs.YtophoepbedlhjaaGreatDoor
def mnL:List Int→Int
 | []=>0
 | [a]=>a
 | a :: b :: l=>min a (mnL (b :: l))
def mxL:List Int→Int
 | []=>0
 | [a]=>a
 | a :: b :: l=>max a (mxL (b :: l))
abbrev Spot:=Int × Int
abbrev cols (L:List Spot):List Int:=L.map Prod.fst
abbrev rws (L:List Spot):List Int:=L.map Prod.snd
def x0 (L:List Spot):Int:=mnL (cols L)
def x1 (L:List Spot):Int:=mxL (cols L)
def y0 (L:List Spot):Int:=mnL (rws L)
def y1 (L:List Spot):Int:=mxL (rws L)
end Go.Proofs.YtophoepbedlhjaaGreatDoor
namespace Go.Proofs.YtophoepbedlhjaaGreatDoor
end Go.Proofs.YtophoepbedlhjaaGreatDoor
namespace Go.Proofs.YtophoepbedlhjaaGreatDoor
structure Grd where
 st:Int
 x:Int
 y:Int
 w:Nat
 h:Nat
 on:List Bool
end Go.Proofs.YtophoepbedlhjaaGreatDoor
-- NEWM
namespace Go.Proofs.YtophoepbedlhjaaGreatDoor
open Go Go.RowKit
set_option maxRecDepth 100000
structure GOk (g:Grd):Prop where
 len:g.on.length=g.w*g.h
 w:g.w≤1000
 h:g.h≤1000
 x:-10000000≤g.x∧g.x≤10000000
 y:-10000000≤g.y∧g.y≤10000000
theorem GOk.n {g:Grd} (h:GOk g):g.on.length≤1000000:=by
 rw[h.len]
 exact Nat.le_trans (Nat.mul_le_mul h.w h.h) (by decide)
theorem zf18 {fn:Func} {nl q b k j b':Nat} {F:Fm} {H:List OB} {Qr:AV→List OB→Prop} (m:List (Option Nat)) (H':(AV→Value)→List OB) (hr:fn.results=#[.tmp q]) (h:F.lookup q=some (.p b k j)) (hb:m[b']?=some (some b)) (hm:(m.filterMap id).Nodup) (hl:∀i,i < nl→m[i]?=some (some i)) (hH:∀g,CvH g m H true m (H' g)) (hq:∀g,Qr (.p b' k j) (H' g)):ARet Tryz.prog fn nl Qr .ret F H:=
 zA m (fun _=>.p b' k j) H' (by rw[hr];exact .tmp h .nil) hm hl (fun _=>.p hb) hH hq
end Go.Proofs.YtophoepbedlhjaaGreatDoor
-- NEWM
namespace Go.Proofs.YtophoepbedlhjaaGreatDoor
open Go Go.RowKit
set_option maxRecDepth 100000
abbrev tR (l:List (List UInt8)):List (List CV):=l.map fun r=>[T r]
end Go.Proofs.YtophoepbedlhjaaGreatDoor
-- NEWM
namespace Go.Proofs.YtophoepbedlhjaaGreatDoor
open Go Go.RowKit
set_option maxRecDepth 100000
section
variable {P:Program} {N:Nat} {E:Env} {F:Fm} {H:List OB} {o:Oper} {S:Nat→Prop} {ρ:List (Option Nat)} {a:Act} {w:World} {t yt:TypeId} {x y:Operand}
theorem zN12 {d:Nat} {z:Value} {vs:List Value} (ho:o.op = .alloc t) (hd:o.dst=some d) (hN:d < N) (hz:(P.info? t).bind (·.zero)=some z) (hc:z.cells=vs.toArray) (h1:vs.all Value.oneCell'=true) :
    Ef P N E o F H fun F' H'=>F'=(d,.p H.length 0 0) :: F∧H'=H++[.boxt t (vs.map fun v=>.c (cvOf v))]:=
 zj9 hd hN ⟨rfl,rfl⟩ fun S ρ a w hR=>by
  refine⟨S,ρ++[some w.heap.size],w.alloc (.cells z.cells t), ?_, ?_,za4 hR.hp _⟩
  ·have hzr:(zeroValue t).run P w = .ok z w:=by
    unfold zeroValue typeInfo
    cases hi:P.info? t with
    | none=>rw[hi] at hz;cases hz
    | some i=>
     rw[hi] at hz
     simp only[Option.bind_some] at hz
     simp[hi,hz]
   rw[zy3 hR.hp]
   simp[execOp,ho,Instr.alloc,hzr,newVar,newRow]
  ·have he:=Ex.snoc (ρ:=ρ) (H:=H) hR.hp.len (some w.heap.size) (.boxt t (vs.map fun v=>.c (cvOf v)))
   refine hR.newO (.cells z.cells t) (.boxt t (vs.map fun v=>.c (cvOf v))) ⟨w.heap.size,rfl, ?_,fun x hx=>?_⟩
   ·rw[zf2,hc,List.map_map]
    congr 2
    rw[List.map_congr_left (g:=id) (fun v _=>by simp[AV.den,zO1]),List.map_id]
   ·obtain⟨v,hv,rfl⟩:=List.mem_map.1 hx
    exact⟨.c (zM2 _ _ _),by rw[AV.den,zO1];exact List.all_eq_true.1 h1 v hv⟩
theorem zt8 {v:AV} {b j n:Nat} {tt:TypeId} {l l':List AV} (ho:o.op = .store t x y) (hd:o.dst=none) (hx:ev F x=some (.p b 0 j)) (hH:H[b]?=some (.boxt tt l)) (hy:ev F y=some v) (ht:(P.info? t).map (·.size)=some n) (hn:(cellsOf v).length=n)
    (hj:j+n≤l.length) (h1:(cellsOf v).all AV.one=true) (hl:putL l j (cellsOf v)=l') :
    Ef P N E o F H fun F' H'=>F'=F∧H'=H.set b (.boxt tt l'):=fun S ρ a w hR=>by
 subst hl
 obtain⟨g1,_⟩:=hR.ev hx
 obtain⟨g3,g4⟩:=hR.ev hy
 obtain⟨hc1,hc2⟩:=zm1 g4 h1
 obtain⟨B,hB,hh,hb⟩:=hR.hp.blk _ _ hH
 have hz:(sizeOf t).run P w = .ok n w:=by
  unfold sizeOf typeInfo
  cases hi:P.info? t with
  | none=>rw[hi] at ht;cases ht
  | some i=>rw[hi] at ht;simp at ht;simp[hi,ht]
 have hrun:=zS (P:=P) (off:=j) ((cellsOf v).map (AV.den ρ H)) 0 w _ hh (by simp;omega) (fun u hu=>by
  obtain⟨x,hx,rfl⟩:=List.mem_map.1 hu
  exact(hc2 x hx).2)
 rw[Nat.add_zero] at hrun
 unfold effO
 have hex:(execOp a.eval o).run P w = .ok .skip (zr w B (.cells (setAll (l.map (AV.den ρ H)).toArray j ((cellsOf v).map (AV.den ρ H))) tt (0,0))):=by
  simp only[execOp,ho,g1,g3,AV.den,hB,Option.map_some,Instr.storeAt,Instr.sureAddr,storeVar,Sem.run_bind,Sem.run_pure,Result.andThen_ok,hz,hc1,List.size_toArray,List.length_map,hn,ne_eq,not_true_eq_false,if_false,
   Nat.zero_mul,Nat.zero_add]
  rw[hrun]
  rfl
 rw[hex]
 refine⟨S,ρ,_,_,⟨rfl,rfl⟩, ?_⟩
 rw[hd]
 have he:=Ex.set (ρ:=ρ) (ob':=.boxt tt (putL l j (cellsOf v))) hH rfl rfl (fun _=>rfl)
 refine R.set (ob:=.boxt tt l) hR hH hB rfl rfl (fun _=>rfl) (zw1 _ _) ⟨B,rfl, ?_,fun x hx=>?_⟩
 ·rw[zX1 hh]
  congr 2
  refine Array.ext_getElem? fun k=>?_
  rw[zd1 _ _ _ _ (by simp;omega)]
  simp only[List.length_map,List.getElem?_map,List.getElem?_toArray]
  rw[zr2 (by omega)]
  have hden:∀x,x∈cellsOf v∨x∈l→x.den ρ (H.set b (.boxt tt (putL l j (cellsOf v))))=x.den ρ H:=fun x hx=>by
   rcases hx with hx|hx
   ·exact(hc2 x hx).1.den_ex he
   ·exact(hb x hx).1.den_ex he
  split
  ·cases hq:(cellsOf v)[k - j]? with
   | none=>rfl
   | some x=>simp only[Option.map_some];rw[hden x (.inl (List.mem_of_getElem? hq))]
  ·cases hq:l[k]? with
   | none=>rfl
   | some x=>simp only[Option.map_some];rw[hden x (.inr (List.mem_of_getElem? hq))]
 ·have hm:=zg10 hR.hp hB (.cells (setAll (l.map (AV.den ρ H)).toArray j ((cellsOf v).map (AV.den ρ H))) tt (0,0))
  rcases zk4 hx with hx|hx
  ·exact⟨(hc2 x hx).1.ex he hm,by rw[(hc2 x hx).1.den_ex he];exact(hc2 x hx).2⟩
  ·exact⟨(hb x hx).1.ex he hm,by rw[(hb x hx).1.den_ex he];exact(hb x hx).2⟩
theorem zO13 {te:TypeId} {n:Nat} {w:World} (a:Addr) (hp:P.underlying t=some (.pointer te)) (hs:(P.info? te).map (·.size)=some (n+1)):(binOp .neq t (.pointer (some a)) (.pointer (some a))).run P w = .ok (.bool false) w:=by
 obtain⟨j,hj,_⟩:=Option.map_eq_some_iff.1 hs
 have h:∀d:Nat,(Op.equalIn (d+1) t (.pointer (some a)) (.pointer (some a))).run P w = .ok true w:=fun d=>by
  simp[Op.equalIn,ze4 hp,sizeOf,typeInfo,hj,run_sameAddr_same]
 simp only[binOp]
 simp[Op.equal,Op.maxDepth,h 9999]
theorem zy15 (ho:o.op = .binOp .eql t x (.const (.pointer none)) yt) (ht:P.underlying t=some (.pointer (P.pointee t))) (hx:ev F x=some (.c (.s (.pointer none)))):Rd P N E o F H (.c (.s (.bool true))):=
 zD1 ho hx rfl (fun _ _=>rfl) (fun _ _=>rfl) fun w=>by
  rw[Sem.run_bind]
  refine Eq.trans (congrArg (fun r=>Result.andThen r _) zf3) ?_
  exact run_eql_pointer_nil w t none ht
theorem zx15 {b k j:Nat} (ho:o.op = .binOp .eql t x (.const (.pointer none)) yt) (ht:P.underlying t=some (.pointer (P.pointee t))) (hx:ev F x=some (.p b k j)):Rd P N E o F H (.c (.s (.bool false))):=fun S ρ a w hR=>by
 obtain⟨h1,h2⟩:=hR.ev hx
 cases h2 with
 | p h0 h=>
  obtain⟨B,hB⟩:=Option.isSome_iff_exists.1 h
  rw[AV.den,hB,Option.map_some] at h1
  refine⟨?_,.c (.s _)⟩
  have h3:a.eval (.const (.pointer none)) = .pointer none:=rfl
  simp only[execOp,ho,h1,h3]
  rw[Sem.run_bind,Sem.run_bind,zf3,Result.andThen_ok,run_eql_pointer_nil w t _ ht]
  rfl
theorem zD13 {e:TypeId} {n:Nat} {b k j:Nat} (ho:o.op = .binOp .neq t x y yt) (ht:P.underlying t=some (.pointer e)) (hs:(P.info? e).map (·.size)=some (n+1)) (hx:ev F x=some (.p b k j)) (hy:ev F y=some (.p b k j)):Rd P N E o F H (.c (.s (.bool false))):=fun S ρ a w hR=>by
 obtain⟨h1,h2⟩:=hR.ev hx
 have h1':=(hR.ev hy).1
 cases h2 with
 | p h0 h=>
  obtain⟨B,hB⟩:=Option.isSome_iff_exists.1 h
  rw[AV.den,hB,Option.map_some] at h1 h1'
  refine⟨?_,.c (.s _)⟩
  simp only[execOp,ho,h1,h1']
  rw[Sem.run_bind,Sem.run_bind,zf3,Result.andThen_ok,zO13 _ ht hs]
  rfl
theorem zM8 {src dst e:TypeId} {b j:Nat} {tt:TypeId} {l:List AV} (ho:o.op = .convert src dst x) (hs:P.underlying src=some (.pointer e)) (hd:P.underlying dst=some .unsafePointer) (hsz:(P.info? e).map (fun i=>decide (i.size=0))=some false) (hx:ev F x=some (.p b 0 j)) (hH:H[b]?=some (.boxt tt l)) (hj:j < l.length):Rd P N E o F H (.p b 0 j):=fun S ρ a w hR=>by
 obtain⟨h1,h2⟩:=hR.ev hx
 obtain⟨B,hB,hh,_⟩:=hR.hp.blk _ _ hH
 have hs0:szAt H b=0:=by unfold szAt;rw[hH];rfl
 rw[AV.den,hB,hs0] at h1
 have hc:w.cell? ⟨B,j,none⟩=some ((l[j]'hj).den ρ H):=by
  unfold World.cell?;rw[hh];simp[hj]
 have:=run_convert_to_unsafe (P:=P) hs hd hsz hc
 refine⟨?_,h2⟩
 simp only[Option.map_some,Nat.zero_mul,Nat.zero_add] at h1
 simp[execOp,ho,h1,this,AV.den,hB,hs0]
theorem zQ6 {src dst:TypeId} {b:Nat} {tt:TypeId} {l:List AV} (ho:o.op = .convert src dst x) (hs:P.underlying src=some .unsafePointer) (hd:P.underlying dst=some (.pointer tt)) (hsi:(P.info? tt).map (·.size)=some l.length) (hl0:0 < l.length) (hlie:liesAt P P.depth tt 1 0 tt 1=true) (hx:ev F x=some (.p b 0 0)) (hH:H[b]?=some (.boxt tt l)):Rd P N E o F H (.p b 0 0):=fun S ρ a w hR=>by
 obtain⟨h1,h2⟩:=hR.ev hx
 obtain⟨i,hi,hsz⟩:=Option.map_eq_some_iff.1 hsi
 obtain⟨B,hB,hh,_⟩:=hR.hp.blk _ _ hH
 have hs0:szAt H b=0:=by unfold szAt;rw[hH];rfl
 rw[AV.den,hB,hs0] at h1
 simp only[Option.map_some,Nat.zero_mul,Nat.zero_add] at h1
 have hsh:w.shape? B=some (tt,l.length):=by unfold World.shape?;rw[hh];simp
 refine⟨?_,h2⟩
 have hco:P.cellsOf tt=l.length:=by unfold Program.cellsOf;rw[hi];simpa using hsz
 have hvar:(variablesAt ⟨B,0,none⟩ tt 1).run P w = .ok true w:=by
  unfold variablesAt
  simp[hsh,hco,Nat.div_self hl0,hlie]
 simp[execOp,ho,h1,convert,ze4 hs,ze4 hd,Conv.unsafePointer,Conv.seenAt,viewAt,hsh,sizeOf,typeInfo,hi,hsz,hvar,AV.den,hB,hs0]
end
end Go.Proofs.YtophoepbedlhjaaGreatDoor
namespace Go.Proofs.YtophoepbedlhjaaGreatDoor
open Go Go.RowKit
set_option maxRecDepth 100000
section
variable {P:Program} {N:Nat} {E:Env} {F:Fm} {H:List OB} {o:Oper} {S:Nat→Prop} {ρ:List (Option Nat)} {a:Act} {w w':World} {t yt:TypeId} {x y:Operand}
theorem R.kill {b B sz cap:Nat} {e:TypeId} {rows:List (List CV)} (hR:R N E S ρ F H a w) (hB:atB ρ b=some B) (hH:H[b]?=some (.arr e sz cap rows)) (hs:w'.heap.size=w.heap.size) (hne:∀k,k≠B→w'.heap[k]?=w.heap[k]?) (hos:w'.os=w.os) (ht:w'.tape=w.tape) (hou:w'.output=w.output) (hdr:w'.drawn=w.drawn) (hp:E.pin=false) :
    R N E S ρ (killF (AV.den ρ H) [b] F) ((H.map (killO (AV.den ρ H) [b])).set b .dead) a w':=by
 have hblt:b < H.length:=(List.getElem?_eq_some_iff.1 hH).1
 have he:ExB [b] ρ H ρ ((H.map (killO (AV.den ρ H) [b])).set b .dead):=by
  refine⟨fun i hi hne=>rfl,fun i hi hne=>?_,fun i hi hne=>?_,by simp⟩
  all_goals replace hne:i≠b:=by simpa using hne
  ·unfold szAt;rw[List.getElem?_set_ne (Ne.symm hne),List.getElem?_map,List.getElem?_eq_getElem hi];simp[zt3]
  ·unfold capAt;rw[List.getElem?_set_ne (Ne.symm hne),List.getElem?_map,List.getElem?_eq_getElem hi];simp[zG2]
 have hm:Mo w S w' S:=fun k hk=>⟨hk,hne k (fun e=>hR.hp.ap b B hB (e▸hk))⟩
 have hin:∀i k B,inP ((H.map (killO (AV.den ρ H) [b])).set b .dead) i k B→inP H i k B:=fun i k B hi=>zl4 (zx4 (fun _ _ h=>by obtain⟨l,h⟩:=zs1 h;cases h) hi)
 refine⟨hR.df,hR.sz,fun i y hy=>?_,⟨by simpa using hR.hp.len,hR.hp.nd,hR.hp.ap,fun i B' hi=>by rw[hs];exact hR.hp.lt i B' hi,fun k hk=>by rw[hs];exact hR.hp.sS k hk,fun i y hy=>?_,hR.hp.pl.same hin (by rw[hs];exact Nat.le_refl _)⟩, ?_,hR.nw,hR.nS,fun i k B' h=>hR.pw i k B' (hin i k B' h),fun i hi=>?_,fun hpp=>by rw[hp] at hpp;cases hpp⟩
 ·obtain⟨y',h1,rfl⟩:=zy1 hy
  obtain⟨h2,h3⟩:=hR.fr i y' h1
  obtain⟨h4,h5⟩:=h3.killed he hm
  exact⟨by rw[h4];exact h2,h5⟩
 ·rw[List.getElem?_set] at hy
  split at hy
  ·split at hy
   ·injection hy with hy;subst hy;trivial
   ·cases hy
  ·rename_i hbi
   rw[List.getElem?_map] at hy
   cases hz:H[i]? with
   | none=>rw[hz] at hy;cases hy
   | some ob=>
    rw[hz] at hy
    simp only[Option.map_some,Option.some.injEq] at hy
    subst hy
    exact(hR.hp.blk i ob hz).killed he hm (fun B' hB'=>hne B' (fun e=>hbi (hR.hp.nd _ _ _ hB (e▸hB')))) (fun k B' hB'=>hne B' (fun e=>(hR.hp.pl.ps i k B' ⟨ob,hz,hB'⟩).2.1 b (e▸hB)))
 ·refine⟨hos.trans hR.st.os,ht.trans hR.st.tape,hou.trans hR.st.output,by rw[hs];exact hR.st.size,fun k hk hW=>?_,by rw[hdr];exact hR.st.drawn⟩
  have:k≠B:=fun e=>by
   subst e
   rcases hR.nw b k hB with(h'|h')|h'
   ·omega
   ·exact hW (.inr h')
   ·exact hW (.inl ⟨_,h'.2⟩)
  rw[hne k this]
  exact hR.st.block k hk hW
 ·obtain⟨h1,h2⟩:=hR.ln i hi
  refine⟨by simpa using h1,fun o ho hs=>?_⟩
  obtain⟨h3,o',h4,h5⟩:=h2 o ho hs
  have hib:i≠b:=fun e=>by rw[e,hH] at h4;injection h4 with h4;subst h4;exact hs h5.symm
  exact⟨h3,killO (AV.den ρ H) [b] o',by rw[List.getElem?_set_ne (Ne.symm hib),List.getElem?_map,h4];rfl,by rw[zF2];exact h5⟩
theorem zV11 {b k n c:Nat} (ho:o.op = .call { callee:=.builtin .unsafeSliceData,args:=#[x],argTypes:=#[t] }) (hx:ev F x=some (.o b k n c)) (hc:0 < c) (hn:0 < n):Rd P N E o F H (.p b k 0):=fun S ρ a w hR=>by
 obtain⟨h1,h2⟩:=hR.ev hx
 cases h2 with
 | o h0 h3 h4 h5=>
  cases hB:atB ρ b with
  | none=>have:=(h5 hB).1;omega
  | some B=>
   rw[AV.den,hB,Option.map_some] at h1
   refine⟨?_,.p h0 (by rw[hB];rfl)⟩
   have:=Lib.run_unsafeSliceData_row (P:=P) w #[t] o.type ⟨B,k*szAt H b,none⟩ n c (by omega)
   simp[execOp,ho,resolve,invoke,builtin,h1,this,AV.den,hB]
theorem zW10 (ho:o.op = .call { callee:=.builtin .unsafeSliceData,args:=#[x],argTypes:=#[t] }) (hx:ev F x=some (.c (.r (.slice none 0 0) []))):Rd P N E o F H (.c (.s (.pointer none))):=fun S ρ a w hR=>by
 have h1:=(hR.ev hx).1
 simp only[AV.den,CV.den] at h1
 refine⟨?_,.c (.s _)⟩
 have:=Lib.run_unsafeSliceData_nil (P:=P) w #[t] o.type 0 0
 simp[execOp,ho,resolve,invoke,builtin,h1,this,AV.den,CV.den]
theorem zC13 {t2:TypeId} (ho:o.op = .call { callee:=.builtin .unsafeString,args:=#[x,y],argTypes:=#[t,t2] }) (hx:ev F x=some (.c (.s (.pointer none)))) (hy:ev F y=some (.c (.s (.int .i64 0)))):Rd P N E o F H (.c (T [])):=fun S ρ a w hR=>by
 have h1:=(hR.ev hx).1
 have h2:=(hR.ev hy).1
 simp only[AV.den,CV.den] at h1 h2
 refine⟨?_,.c (.s _)⟩
 have:=Lib.run_unsafeString_none (P:=P) w t t2 o.type none
 simp[execOp,ho,resolve,invoke,builtin,h1,h2,this,AV.den,CV.den]
 rfl
theorem zb16 {e t2:TypeId} {b d cap:Nat} {l:List UInt8} (ho:o.op = .call { callee:=.builtin .unsafeString,args:=#[x,y],argTypes:=#[t,t2] }) (hd:o.dst=some d) (hN:d < N) (hp:P.underlying t=some (.pointer e)) (hce:P.cellsOf e=1) (hx:ev F x=some (.p b 0 0)) (hy:ev F y=some (.c (.s (.int .i64 l.length)))) (hH:H[b]?=some (.arr e 1 cap (l.map fun c=>[.s (.int .u8 c.toNat)]))) (h0:0 < l.length) (h63:l.length≤9223372036854775807) (hpin:E.pin=false) :
    Ef P N E o F H fun F' H'=>∃g,F'=(d,.c (T l)) :: killF g [b] F∧H'=(H.map (killO g [b])).set b .dead:=fun S ρ a w hR=>by
 have h1:=(hR.ev hx).1
 have h2:=(hR.ev hy).1
 simp only[AV.den,CV.den] at h1 h2
 rcases hR.hp.blk _ _ hH with⟨_,_,h⟩|⟨B,cs,hB,hh,hcs,hmx,hrl,hrow,hcell⟩
 ·have:=congrArg List.length h
  rw[List.length_map,List.length_nil] at this;omega
 rw[hB] at h1
 simp only[Option.map_some,Nat.zero_mul,Nat.zero_add] at h1
 have hl:l.length≤cap:=by simpa using hrl
 have hsh:w.shape? B=some (e,cs.size):=by unfold World.shape?;rw[hh]
 have hcl:∀(j:Nat) (c:UInt8),l[j]?=some c→w.cell? ((⟨B,0,none⟩:Addr).add j)=some (.int .u8 c.toNat):=fun j c hj=>by
  have h3:=hcell j 0 [.s (.int .u8 c.toNat)] (.s (.int .u8 c.toNat)) (by rw[List.getElem?_map,hj];rfl) rfl
  have:((⟨B,0,none⟩:Addr).add j)=⟨B,j,none⟩:=by
   unfold Addr.add;split
   ·rename_i h;subst h;rfl
   ·simp
  rw[this]
  unfold World.cell?
  rw[hh]
  simpa [CV.den] using h3
 have hrun:=Lib.run_unsafeString_row (P:=P) w t t2 o.type e hp hce B cs.size hsh l (fun e=>by rw[e] at h0;simp at h0) (by rw[hcs];omega) h63 hcl
 unfold effO
 have hex:(execOp a.eval o).run P w = .ok (.value (.string (bst l))) (w.freeze ⟨B,0,none⟩ l.length):=by
  unfold execOp
  simp only[ho,resolve,invoke,builtin,Sem.run_bind,Sem.run_pure,Result.andThen_ok,List.map_toArray,List.map_cons,List.map_nil,h1,h2,hrun]
 rw[hex]
 have hn0:¬l.length=0:=by omega
 have hk:=R.kill (w':=w.freeze ⟨B,0,none⟩ l.length) hR hB hH (by unfold World.freeze;rw[if_neg hn0];simp) (fun k hk=>by unfold World.freeze;rw[if_neg hn0];simp[Array.getElem?_modify,Ne.symm hk]) (by unfold World.freeze;rw[if_neg hn0]) (by unfold World.freeze;rw[if_neg hn0]) (by unfold World.freeze;rw[if_neg hn0]) (by unfold World.freeze;rw[if_neg hn0]) hpin
 refine⟨S,ρ,_,_,⟨AV.den ρ H,rfl,rfl⟩, ?_⟩
 rw[hd]
 exact hk.put hN (.c (.s _))
theorem zu15 {f:FuncId} {fn:Func} {tys:Array TypeId} {v:AV} (ho:o.op = .call { callee:=.value (.func f),args:=#[x],argTypes:=tys }) (hx:ev F x=some v)
    (hf:P.funcs[f]?=some fn) (hname:(fn.name == "runtime.NumGoroutine")=false) (hb:fn.body.isNone=true) (hn:Extern.findNext fn=none) (he:Extern.find fn=some Extern.AbiNoEscape.same):Rd P N E o F H v:=fun S ρ a w hR=>by
 obtain⟨h1,h2⟩:=hR.ev hx
 have h3:a.eval (.func f) = .func (.func f) #[] #[]:=rfl
 refine⟨?_,h2⟩
 have hs:(Extern.AbiNoEscape.same #[v.den ρ H]).run P w = .ok (v.den ρ H) w:=rfl
 simp[execOp,ho,resolve,h1,h3,Deferred.ofValue,invoke,run_callFunc_extern hf hname hb hn he,hs]
end
end Go.Proofs.YtophoepbedlhjaaGreatDoor
-- NEWM
namespace Go.Proofs.YtophoepbedlhjaaGreatDoor
open Go Go.RowKit
set_option maxRecDepth 100000
abbrev uR (l:List UInt8):List (List CV):=l.map fun c=>[.s (.int .u8 c.toNat)]
abbrev bldB (A:AV) (b n c:Nat):OB:=.boxt 140 [A,.o b 0 n c]
abbrev bldA (c:Nat) (l:List UInt8):OB:=.arr 5 1 c (uR l)
abbrev pnil:AV:=.c (.s (.pointer none))
theorem zm9 (A:AV) (n c:Nat) (l:List UInt8) (hA:A=pnil∨A = .p 0 0 0):ACallsX true Tryz.prog 139 [.p 0 0 0] [bldB A 1 n c,bldA c l] fun u H=>u = .t []∧H = [bldB (.p 0 0 0) 1 n c,bldA c l]:=by
 refine zG true (N:=20) Tryz.func139 rfl rfl (by simp) fun E hE hP=>?_
 rcases hA with rfl|rfl
 ·refine ZR ?_
  iterate 4 refine WX1 ?_
  refine ZA (zy15 rfl (by kernel_rfl) rfl) ?_
  refine WE ?_
  refine zb rfl ?_
  refine ZR ?_
  iterate 2 refine WX1 ?_
  refine ZA (zM8 rfl Tryz.underlying137 Tryz.underlying293 (by kernel_rfl) rfl rfl (by simp)) ?_
  refine ZA (zu15 rfl rfl rfl rfl rfl rfl rfl) ?_
  refine ZA (zQ6 rfl Tryz.underlying293 Tryz.underlying137 (by kernel_rfl) (by simp) (by kernel_rfl) rfl rfl) ?_
  iterate 2 refine WX1 ?_
  refine ze rfl (zt8 rfl rfl rfl rfl rfl (KS (t:=137) rfl) rfl (by simp) rfl rfl) ?_
  rintro _ _ ⟨rfl,rfl⟩
  refine WE ?_
  exact zG1 [some 0,some 1] (fun _=>[bldB (.p 0 0 0) 1 n c,bldA c l]) (.inr rfl) rfl (by decide) (ZNK rfl) ZCH (fun _=>⟨rfl,rfl⟩)
 ·refine ZR ?_
  iterate 4 refine WX1 ?_
  refine ZA (zx15 rfl (by kernel_rfl) rfl) ?_
  refine WE ?_
  refine za rfl ?_
  refine ZR ?_
  iterate 5 refine WX1 ?_
  refine ZA (zD13 (n:=1) rfl Tryz.underlying137 (by kernel_rfl) rfl rfl) ?_
  refine WE ?_
  refine za rfl ?_
  refine ZZ ?_
  exact zG1 [some 0,some 1] (fun _=>[bldB (.p 0 0 0) 1 n c,bldA c l]) (.inr rfl) rfl (by decide) (ZNK rfl) ZCH (fun _=>⟨rfl,rfl⟩)
theorem za13 (A:AV) (c:Nat) (l:List UInt8) (h0:0 < l.length) (hl:l.length≤1000000) (hc:l.length≤c) (hA:A = .p 0 0 0):ACalls Tryz.prog 76 [.p 0 0 0] [bldB A 1 l.length c,bldA c l] fun u H=>u = .c (T l)∧∃z,H = [.boxt 140 [.p 0 0 0,z],.dead]:=by
 subst hA
 refine zG false (N:=14) Tryz.func76 rfl rfl (by simp) fun E hE hP=>?_
 refine WA ?_
 refine ZZ ?_
 refine zd [(0,none),(1,none),(2,none),(3,none),(4,none),(5,none),(6,none),(7,none),(8,none),(9,none),(10,some []),(11,none)] zn (by kernel_rfl) ?_
 iterate 4 refine WX2 ?_
 refine ZT rfl (zV11 rfl rfl (by omega) (by omega)) ?_
 iterate 5 refine WX2 ?_
 refine zt1 rfl rfl (zb16 (l:=l) rfl rfl (by decide) Tryz.underlying224 (by kernel_rfl) rfl rfl rfl (by omega) (by omega) hP) ?_
 rintro _ _ ⟨_,rfl,rfl⟩
 refine⟨zh, ?_⟩
 refine WQ ?_
 exact zA1 [some 0,some 1] [.boxt 140 [.p 0 0 0,.c (.s _)],.dead] rfl rfl rfl (by decide) (ZNK rfl) (fun _=>.oth rfl (.boxt (.cons (.p rfl) (.cons (.c rfl) .nil))) (.oth rfl .dead .nil)) ⟨rfl,_,rfl⟩
end Go.Proofs.YtophoepbedlhjaaGreatDoor
