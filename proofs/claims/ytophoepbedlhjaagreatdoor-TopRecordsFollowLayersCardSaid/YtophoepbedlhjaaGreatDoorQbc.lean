/- Merge, by value. -/
import Derived.Test.YtophoepbedlhjaaGreatDoorQbb
import Derived.Lib.Overlaps
import Derived.Lib.AppendZeros
set_option linter.unusedSimpArgs false
set_option linter.unusedVariables false
namespace Go.Proofs.YtophoepbedlhjaaGreatDoor
open Go Go.RowKit
section
variable {P:Program} {N:Nat} {E:Env} {F:Fm} {H:List OB} {o:Oper} {S:Nat→Prop} {ρ:List (Option Nat)} {a:Act} {w:World}
theorem zi6 (w:World) (t tn ty e:TypeId) (i:TypeInfo) (z:Value) (k kn:IntKind) (ht:P.underlying t=some (.slice e)) (htn:P.underlying tn=some (.int kn)) (hi:P.info? e=some i) (hz:i.zero=some z)
    (A:Option Addr) (c n:Nat) (h0:c < n) (hs:0 < i.size) (h63:(n:Int)≤9223372036854775807) (h48:2*n*i.bytes≤281474976710656) :
    (Builtin.append_ #[t,tn] ty #[.slice A 0 c,.int k n]).run P w =
     .ok (.slice (some ⟨w.heap.size,0,none⟩) n (grownCap w n c e)) (w.drew.alloc (.cells (Builtin.zeroCells z.cells n++Builtin.zeroCells z.cells (grownCap w n c e - n)) e)):=by
 have hn:n≠0:=by omega
 have hw:IntKind.i64.wrap (n:Int)=n:=by rw[IntKind.wrap_i64];omega
 have h63':¬(9223372036854775807 < (n:Int)):=by omega
 have hle:=nextslicecap_le h0
 have h48':¬(281474976710656 < Builtin.nextslicecap n c*i.bytes):=by
  have:Builtin.nextslicecap n c*i.bytes≤2*n*i.bytes:=Nat.mul_le_mul_right _ hle
  omega
 have h48i:¬(281474976710656 < (n:Int)*(i.bytes:Int)):=by
  rw[←Int.natCast_mul]
  have:n*i.bytes≤2*n*i.bytes:=Nat.mul_le_mul_right _ (by omega)
  omega
 have hneg:¬((n:Int) < 0):=by omega
 have hns:¬(n*i.size=0):=Nat.mul_ne_zero hn (by omega)
 have hroom:¬n≤c:=by omega
 have hf:∀w,(Builtin.firstCells i.size 0 (.slice A 0 c)).run P w = .ok #[] w:=fun w=>by
  cases A with
  | none=>exact run_firstCells_none w _ _ _ _
  | some q=>exact run_firstCells_some w i.size 0 q 0 c [] (by simp) (fun j v h=>by simp at h)
 simp[Builtin.append_,run_underlying ht,run_underlying htn,sizeOf,typeInfo,zeroValue,hi,hz,asInt,asIntOf,hw,hn,hneg,hns,h63',h48',h48i,hroom,Question.forced,hf,newRow,grownCap]
theorem ef_appz {t tn e:TypeId} {sz d b k c cap n:Nat} {kx kn:IntKind} {zi:Int} {s x:Operand} {z:Value} {vs:List Value} {rows:List (List CV)} (ho:o.op = .call { callee:=.builtin .append,args:=#[s,x],argTypes:=#[t,tn] }) (hd:o.dst=some d) (hN:d < N)
    (hE:ElemTy P t e sz) (htn:P.underlying tn=some (.int kn)) (hs:ev F s=some (.o b k 0 c)) (hH:H[b]?=some (.arr e sz cap rows)) (hx:ev F x=some (.c (.s (.int kx zi)))) (hzi:zi=n) (hn:c < n) (hle:n≤1000000000)
    (hz:(P.info? e).bind (·.zero)=some z) (hvs:z.cells=vs.toArray) (h1:vs.all Value.oneCell'=true) :
    Ef P N E o F H fun F' H'=>∃c2,n≤c2∧F'=(d,.o H.length 0 n c2) :: F∧H'=H++[.arr e sz c2 (List.replicate n (vs.map cvOf))]:=fun S ρ a w hR=>by
 subst hzi
 obtain⟨g1,_⟩:=hR.ev hs
 obtain⟨g3,_⟩:=hR.ev hx
 obtain⟨inf,z',hi,hz',hsz,hby,hzs⟩:=hE.hi
 obtain rfl:z'=z:=by rw[hi] at hz;simp only[Option.bind_some] at hz;rw[hz'] at hz;exact Option.some.inj hz
 have hrun:=zi6 (P:=P) w t tn o.type e inf z' kx kn hE.ht htn hi hz' ((AV.o b k 0 c).den ρ H |> fun v=>match v with | .slice A _ _=>A|_=>none) c n hn (by rw[hsz];exact hE.hsz) (by omega) (by
  have:2*n*inf.bytes≤2*n*256:=Nat.mul_le_mul_left _ hby
  omega)
 have hge:=grownCap_ge w n c e
 have hcm:grownCap w n c e≤maxLen:=grownCap_le_maxLen w n c e (by simp only[maxLen];omega)
 have hvl:vs.length=sz:=by rw[←hzs,hvs];simp
 unfold effO
 have hex:(execOp a.eval o).run P w = .ok (.value (.slice (some ⟨w.heap.size,0,none⟩) n (grownCap w n c e))) (w.drew.alloc (.cells (Builtin.zeroCells z'.cells n++Builtin.zeroCells z'.cells (grownCap w n c e - n)) e)):=by
  unfold execOp
  simp only[AV.den,CV.den] at g1 g3 hrun
  simp only[ho,resolve,invoke,builtin,Sem.run_bind,Sem.run_pure,Result.andThen_ok,List.map_toArray,List.map_cons,List.map_nil,g1,g3,hrun]
 rw[hex]
 have hR2:=hR.drew
 have hob:OwnB (w.drew.alloc (.cells (Builtin.zeroCells z'.cells n++Builtin.zeroCells z'.cells (grownCap w n c e - n)) e)) S (ρ++[some w.drew.heap.size]) (H++[.arr e sz (grownCap w n c e) (List.replicate n (vs.map cvOf))]) (.arr e sz (grownCap w n c e) (List.replicate n (vs.map cvOf))) (some w.drew.heap.size):=by
  refine .inr ⟨_,_,rfl,zq2 _ _, ?_,hcm,by simpa using hge,fun row hrow=>?_,fun k' j row u hk hj=>?_⟩
  ·simp only[Array.size_append,size_zeroCells,hzs,←Nat.add_mul]
   congr 1;omega
  ·have:=List.eq_of_mem_replicate hrow
   subst this
   refine⟨by simp[hvl],fun u hu=>?_⟩
   obtain⟨v,hv,rfl⟩:=List.mem_map.1 hu
   exact⟨zO2 _ _ _,by rw[zY1];exact List.all_eq_true.1 h1 v hv⟩
  ·rw[List.getElem?_replicate] at hk
   split at hk
   ·rename_i hkc
    injection hk with hk
    subst hk
    rw[List.getElem?_map] at hj
    cases hv:vs[j]? with
    | none=>rw[hv] at hj;cases hj
    | some v=>
     rw[hv] at hj
     simp only[Option.map_some,Option.some.injEq] at hj
     subst hj
     have hjl:j < sz:=by rw[←hvl];exact(List.getElem?_eq_some_iff.1 hv).1
     have hlt:k'*sz+j < n*sz:=by
      have:(k'+1)*sz≤n*sz:=Nat.mul_le_mul_right sz hkc
      rw[Nat.add_mul] at this
      omega
     rw[zY1,Array.getElem?_append,if_pos (by rw[size_zeroCells,hzs];exact hlt)]
     have hlt':k'*sz+j < n*z'.cells.size:=by rw[hzs];exact hlt
     simp only[Builtin.zeroCells,Array.getElem?_map,Array.getElem?_range,hlt',if_true,Option.map_some]
     rw[hzs,show (k'*sz+j) % sz=j from by rw[Nat.add_comm,Nat.add_mul_mod_self_right,Nat.mod_eq_of_lt hjl]]
     congr 1
     have:z'.cells[j]?=some v:=by rw[hvs];simpa using hv
     rw[getElem!_def,this]
   ·cases hk
 have hR3:=hR2.new _ e _ hob
 refine⟨S,ρ++[some w.drew.heap.size],_,_,⟨grownCap w n c e,hge,rfl,rfl⟩, ?_⟩
 rw[hd]
 have:=hR3.put hN (zW4 hR2.hp (ob:=.arr e sz (grownCap w n c e) (List.replicate n (vs.map cvOf))) (n:=n) (c:=grownCap w n c e) hge (Nat.le_refl _))
 rw[zt4 hR2.hp] at this
 exact this
end
end Go.Proofs.YtophoepbedlhjaaGreatDoor
-- NEWM
namespace Go.Proofs.YtophoepbedlhjaaGreatDoor
open Go Go.RowKit
set_option maxRecDepth 100000
def catR (ps:List (Value × List (List CV))):List (List CV):=ps.flatMap (·.2)
theorem zv5 {ps:List (Value × List (List CV))} {k:Nat} {p:Value × List (List CV)} (h:ps[k]?=some p):catR (ps.take (k+1))=catR (ps.take k)++p.2:=by
 rw[catR,List.take_add_one,h,List.flatMap_append];simp[catR]
theorem catR_le {ps:List (Value × List (List CV))} (k:Nat):(catR (ps.take k)).length≤(catR ps).length:=by
 conv=>rhs;rw[←List.take_append_drop k ps]
 rw[catR,catR,List.flatMap_append,List.length_append];omega
theorem zA7 {ps:List (Value × List (List CV))} {k:Nat} {p:Value × List (List CV)} (h:ps[k]?=some p):(catR (ps.take k)).length+p.2.length≤(catR ps).length:=by
 have:=catR_le (ps:=ps) (k+1)
 rw[zv5 h,List.length_append] at this
 exact this
theorem growN_a (n:Nat) (hn:n≤1000000):ACalls Tryz.prog 58 [.c (.r (.slice none 0 0) []),.c (I n)] [] fun u H=>∃(c:Nat) (rows:List (List CV)),n≤c∧u = .o 0 0 0 c∧H = [.arr 37 10 c rows]:=by
 refine zb (N:=27) Tryz.func58 rfl rfl (by simp) fun E hE=>?_
 refine zB5 (wkg (K:=fun F H=>F = [(0,.o 0 0 0 0),(1,.c (I n))]∧H = [.arr 37 10 0 []]) [none] (fun _=>[(0,.o 0 0 0 0),(1,.c (I n))]) (fun _=>[.arr 37 10 0 []]) (fun _=>⟨rfl,rfl⟩)) ?_
 rintro F H ⟨rfl,rfl⟩
 refine WA ?_
 refine WA ?_
 refine za rfl ?_
 refine ZZ ?_
 rcases Nat.eq_zero_or_pos n with h0|hp
 ·refine WA ?_
  refine WA ?_
  refine za rfl ?_
  refine WA ?_
  exact zT5 [some 0] (fun _=>[.arr 37 10 0 []]) rfl rfl rfl rfl rfl (by decide) (ZNK rfl) ZCH (fun _=>⟨0,[],by omega,rfl,rfl⟩)
 ·refine WA ?_
  refine WA ?_
  refine zd rfl ?_
  refine ZR ?_
  iterate 3 refine WX1 ?_
  refine ZA (zZ6 (l:=0) (h:=0) rfl (KE (t:=38) rfl) rfl rfl (.inl ⟨rfl,rfl⟩) (.inr ⟨_,_,_,rfl,rfl,rfl⟩) rfl rfl) ?_
  refine WO ?_
  refine zf rfl (ef_appz (n:=n) rfl rfl (by decide) (KA (t:=38) rfl) Tryz.underlying3 rfl rfl rfl (by omega) (by omega) (by omega) (KZ (t:=37) rfl) rfl rfl) ?_
  rintro _ _ ⟨c2,hc2,rfl,rfl⟩
  iterate 2 refine WX1 ?_
  refine ZA (zM3 (l:=0) (h:=0) rfl (KE (t:=38) rfl) rfl rfl (.inl ⟨rfl,rfl⟩) (.inr ⟨_,_,_,rfl,rfl,rfl⟩) (by omega) (by omega) (by omega)) ?_
  refine WE ?_
  refine WA ?_
  exact zT5 [some 1] (fun _=>[.arr 37 10 c2 (List.replicate n [T [],I 0,I 0,I 0,T [],T [],T [],I 0,T [],I 0])]) rfl rfl rfl rfl rfl (by decide) (ZNK rfl) ZCH (fun _=>⟨c2,_,by omega,rfl,rfl⟩)
theorem zx11 (ps:List (Value × List (List CV))) (v:Value) (hR:∀p∈ps,OkR 10 p.2) (h1:1≤ps.length) (hl:ps.length≤1000) (hn:(catR ps).length≤1000000) :
    ACalls Tryz.prog 12 [.c (.r v (ps.map fun p=>[.r p.1 p.2]))] [] fun u H=>∃(c:Nat),(catR ps).length≤c∧u = .o 0 0 (catR ps).length c∧H = [.arr 37 10 c (catR ps)]:=by
 have e1:(ps.map fun p=>[CV.r p.1 p.2]).length=ps.length:=by simp
 refine zb (N:=36) Tryz.func12 rfl rfl (by simp) fun E hE=>?_
 refine WA ?_
 refine WA ?_
 refine WA ?_
 refine zm (fun m F H=>∃(k:Nat),m+k=ps.length∧F = [(0,.c (.r v (ps.map fun p=>[.r p.1 p.2]))),(3,.c (I (catR (ps.take k)).length)),(9,.c (.r v (ps.map fun p=>[.r p.1 p.2]))),(10,.c (I (ps.map fun p=>[CV.r p.1 p.2]).length)),(11,.c (I k))]∧H = []) ?_ ?_
 ·refine zf1 [] (fun _=>[(0,.c (.r v (ps.map fun p=>[.r p.1 p.2]))),(3,.c (I (catR (ps.take 0)).length)),(9,.c (.r v (ps.map fun p=>[.r p.1 p.2]))),(10,.c (I (ps.map fun p=>[CV.r p.1 p.2]).length)),(11,.c (I (0:Nat)))]) (fun _=>_) (by decide) (ZNL hE) ZCF (fun _=>.nil) (fun _=>?_)
  exact⟨ps.length,0,by omega,rfl,rfl⟩
 ·rintro m F H ⟨k,hk,rfl,rfl⟩
  refine WA ?_
  refine zl rfl (fun hlt=>?_) (fun hge=>?_)
  ·obtain⟨p,hp⟩:∃p,ps[k]?=some p:=⟨_,List.getElem?_eq_getElem (by omega)⟩
   have hrow:(ps.map fun p=>[CV.r p.1 p.2])[k]?=some [.r p.1 p.2]:=by rw[List.getElem?_map,hp];rfl
   have hpl:=zA7 hp
   refine WA ?_
   refine WA ?_
   refine WA ?_
   refine za rfl ?_
   refine WA ?_
   refine zf1 [] (fun _=>[(0,.c (.r v (ps.map fun p=>[.r p.1 p.2]))),(3,.c (I (((catR (ps.take k)).length:Int)+p.2.length))),(9,.c (.r v (ps.map fun p=>[.r p.1 p.2]))),(10,.c (I (ps.map fun p=>[CV.r p.1 p.2]).length)),(11,.c (I (k+1:Nat)))]) (fun _=>_) (by decide) (ZNL hE) ZCF (fun _=>.nil) (fun _=>?_)
   exact⟨m - 1,by omega,k+1,by omega,by rw[zv5 hp,List.length_append];rfl,rfl⟩
  obtain rfl:k=ps.length:=by omega
  refine ZZ ?_
  have e3:((catR (ps.take ps.length)).length:Int)=(catR ps).length:=by rw[List.take_length]
  refine zB5 (zf1 (K:=fun F H=>F = [(0,.c (.r v (ps.map fun p=>[.r p.1 p.2]))),(3,.c (I (catR ps).length))]∧H = []) [] (fun _=>[(0,.c (.r v (ps.map fun p=>[.r p.1 p.2]))),(3,.c (I (catR ps).length))]) (fun _=>_) (by decide) (ZNL hE) (fun _=>.cons rfl (.c rfl) (.cons rfl (.c (by rw[e3])) .nil)) (fun _=>.nil) (fun _=>⟨rfl,rfl⟩)) ?_
  rintro F H ⟨rfl,rfl⟩
  refine WR ?_
  refine zf rfl (efk (c:=fun _=>growN_a (catR ps).length (by omega))) ?_
  rintro _ _ ⟨_,_,_,⟨c,rows,hc,rfl,rfl⟩,hF,hH⟩
  (refine NST hF hH ?_;clear hF hH;rintro rfl rfl)
  refine WE ?_
  refine WA ?_
  refine zm (fun m F H=>∃(k c:Nat) (rows:List (List CV)),m+k=ps.length∧(catR (ps.take k)).length≤c∧(catR ps).length≤c∧(catR (ps.take k)).length≤rows.length∧rows.take (catR (ps.take k)).length=catR (ps.take k)∧(1≤k→rows=catR (ps.take k))∧F = [(6,.o 0 0 (catR (ps.take k)).length c),(25,.c (.r v (ps.map fun p=>[.r p.1 p.2]))),(26,.c (I (ps.map fun p=>[CV.r p.1 p.2]).length)),(27,.c (I k))]∧H = [.arr 37 10 c rows]) ?_ ?_
  ·refine zf1 [some 0] (fun _=>[(6,.o 0 0 (catR (ps.take 0)).length c),(25,.c (.r v (ps.map fun p=>[.r p.1 p.2]))),(26,.c (I (ps.map fun p=>[CV.r p.1 p.2]).length)),(27,.c (I (0:Nat)))]) (fun _=>_) (by decide) (ZNL hE) ZCF ZCH (fun _=>?_)
   exact⟨ps.length,0,c,rows,by omega,by simp[catR],hc,by simp[catR],by simp[catR],by omega,rfl,rfl⟩
  rintro m F H ⟨k,c,rows,hk,hc1,hc,hq,hrt,hre,rfl,rfl⟩
  refine WA ?_
  refine zl rfl (fun hlt=>?_) (fun hge=>?_)
  ·obtain⟨p,hp⟩:∃p,ps[k]?=some p:=⟨_,List.getElem?_eq_getElem (by omega)⟩
   have hrow:(ps.map fun p=>[CV.r p.1 p.2])[k]?=some [.r p.1 p.2]:=by rw[List.getElem?_map,hp];rfl
   have hpl:=zA7 hp
   have hnx:=zv5 hp
   refine WA ?_
   refine WR ?_
   refine zf rfl (zh8 (b:=0) (n:=(catR (ps.take k)).length) (cap:=c) (news:=p.2) rfl rfl (by decide) (KA (t:=38) rfl) rfl rfl hq rfl (.ro (fun r h=>(hR p (List.mem_of_getElem? hp) r h).1) (fun r h=>(hR p (List.mem_of_getElem? hp) r h).2)) (by omega)) ?_
   rintro F1 H1 ⟨_,c2,hc2,hcf,hF,hH⟩
   obtain rfl:c=c2:=(hcf (by omega)).symm
   (refine NSU hF hH ?_;clear hF hH;rintro rfl rfl)
   refine WE ?_
   refine WA ?_
   refine zf1 [some 0] (fun _=>[(6,.o 0 0 (catR (ps.take (k+1))).length _),(25,.c (.r v (ps.map fun p=>[.r p.1 p.2]))),(26,.c (I (ps.map fun p=>[CV.r p.1 p.2]).length)),(27,.c (I (k+1:Nat)))]) (fun _=>_) (by decide) (ZNL hE) (fun _=>.cons rfl (.o rfl (by rw[hnx,List.length_append])) (.cons rfl (.c rfl) (.cons rfl (.c rfl) (.cons rfl (.c (by simp)) .nil)))) ZCH (fun _=>?_)
   exact⟨m - 1,by omega,k+1,_,_,by omega,by rw[hnx,List.length_append];omega,hc,by rw[hnx,hrt];simp,by rw[hnx,hrt,List.take_length],fun _=>by rw[hnx,hrt],rfl,rfl⟩
  obtain rfl:k=ps.length:=by omega
  obtain rfl:rows=catR ps:=by have:=hre h1;rwa [List.take_length] at this
  refine WA ?_
  exact zT5 [some 0] (fun _=>[.arr 37 10 c (catR ps)]) rfl rfl rfl (by rw[List.take_length]) rfl (by decide) (ZNK rfl) ZCH (fun _=>⟨c,hc,rfl,rfl⟩)
end Go.Proofs.YtophoepbedlhjaaGreatDoor
-- NEWM
namespace Go.Proofs.YtophoepbedlhjaaGreatDoor
open Go Go.RowKit
set_option maxRecDepth 100000
def zN:Nt:=⟨[],0,0,0,[],[],[],0,[],0⟩
def encN:Enc Nt:=⟨fun a=>.agg #[.string (bst a.st),.int .i64 a.no,.int .i64 a.at_,.int .i64 a.kd,.string (bst a.pr),.string (bst a.jb),.string (bst a.sp),.int .i64 a.n,.string (bst a.of_),.int .i64 a.ot],fun a=>noA a,fun a ρ H=>rfl,fun a w S ρ H=>.a fun x hx=>by
 obtain⟨u,hu,rfl⟩:=List.mem_map.1 hx
 simp only[noR,List.mem_cons,List.not_mem_nil,or_false] at hu
 rcases hu with rfl|rfl|rfl|rfl|rfl|rfl|rfl|rfl|rfl|rfl <;> exact .c (.s _)⟩
end Go.Proofs.YtophoepbedlhjaaGreatDoor
-- NEWM
namespace Go.Proofs.YtophoepbedlhjaaGreatDoor
open Go Go.RowKit
set_option maxRecDepth 100000
end Go.Proofs.YtophoepbedlhjaaGreatDoor
-- NEWM
namespace Go.Proofs.YtophoepbedlhjaaGreatDoor
open Go Go.RowKit
set_option maxRecDepth 100000
theorem noFlat {K:CV→Prop} (l:List Nt):∀row∈noRs l,∀u∈row,u.flat∨K u:=fun row hr u hu=>by
 obtain⟨x,_,rfl⟩:=List.mem_map.1 hr
 simp only[noR,List.mem_cons,List.not_mem_nil,or_false] at hu
 rcases hu with rfl|rfl|rfl|rfl|rfl|rfl|rfl|rfl|rfl|rfl <;> exact .inl trivial
theorem zV9 {a:List Nt} (h:chkN a=0):(a.map ky).Nodup∧a.length≤2000:=by
 unfold chkN at h
 split at h
 ·cases h
 split at h
 ·rename_i h1;exact absurd h h1
 split at h
 ·rename_i h1;exact⟨h1,by omega⟩
 ·cases h
end Go.Proofs.YtophoepbedlhjaaGreatDoor
