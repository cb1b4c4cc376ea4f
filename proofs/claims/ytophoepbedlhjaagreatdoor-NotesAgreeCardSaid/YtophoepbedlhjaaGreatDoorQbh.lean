/- Merge, by value. -/
import Derived.Test.YtophoepbedlhjaaGreatDoorQbg
import Derived.Lib.Overlaps
import Derived.Lib.AppendZeros
set_option linter.unusedSimpArgs false
set_option linter.unusedVariables false
namespace Go.Proofs.YtophoepbedlhjaaGreatDoor
open Go Go.RowKit
section
variable {P:Program} {N:Nat} {E:Env} {F:Fm} {H:List OB} {o:Oper} {S:Nat→Prop} {ρ:List (Option Nat)} {a:Act} {w:World}
theorem zP6 (w:World) (t tn ty e:TypeId) (i:TypeInfo) (z:Value) (k kn:IntKind) (ht:P.underlying t=some (.slice e)) (htn:P.underlying tn=some (.int kn)) (hi:P.info? e=some i) (hz:i.zero=some z)
    (A:Option Addr) (c n:Nat) (h0:c < n) (hs:0 < i.size) (h63:(n:Int)≤9223372036854775807) (h48:2*n*i.bytes≤281474976710656) :
    (Builtin.append_ #[t,tn] ty #[.slice A 0 c,.int k n]).run P w =
     .ok (.slice (some ⟨w.heap.size,0,none⟩) n (grownCap w n c e)) (w.drew.alloc (.cells (Builtin.zeroCells z.cells n++Builtin.zeroCells z.cells (grownCap w n c e - n)) e)):=by
 have hn:n≠0:=by omega
 have hw:IntKind.i64.wrap (n:Int)=n:=by rw[IntKind.wrap_i64];omega
 have h63':¬(9223372036854775807 < (n:Int)):=by omega
 have hle:=nextslicecap_le h0
 have h48':¬(281474976710656 < Builtin.nextslicecap n c*i.bytes):=by
  have:Builtin.nextslicecap n c*i.bytes≤2*n*i.bytes:=Nat.mul_le_mul_right _ hle
  omega
 have h48i:¬(281474976710656 < (n:Int)*(i.bytes:Int)):=by
  rw[←Int.natCast_mul]
  have:n*i.bytes≤2*n*i.bytes:=Nat.mul_le_mul_right _ (by omega)
  omega
 have hneg:¬((n:Int) < 0):=by omega
 have hns:¬(n*i.size=0):=Nat.mul_ne_zero hn (by omega)
 have hroom:¬n≤c:=by omega
 have hf:∀w,(Builtin.firstCells i.size 0 (.slice A 0 c)).run P w = .ok #[] w:=fun w=>by
  cases A with
  | none=>exact run_firstCells_none w _ _ _ _
  | some q=>exact run_firstCells_some w i.size 0 q 0 c [] (by simp) (fun j v h=>by simp at h)
 simp[Builtin.append_,run_underlying ht,run_underlying htn,sizeOf,typeInfo,zeroValue,hi,hz,asInt,asIntOf,hw,hn,hneg,hns,h63',h48',h48i,hroom,Question.forced,hf,newRow,grownCap]
theorem zg16 {t tn e:TypeId} {sz d b k c cap n:Nat} {kx kn:IntKind} {zi:Int} {s x:Operand} {z:Value} {vs:List Value} {rows:List (List CV)} (ho:o.op = .call { callee:=.builtin .append,args:=#[s,x],argTypes:=#[t,tn] }) (hd:o.dst=some d) (hN:d < N)
    (hE:ElemTy P t e sz) (htn:P.underlying tn=some (.int kn)) (hs:ev F s=some (.o b k 0 c)) (hH:H[b]?=some (.arr e sz cap rows)) (hx:ev F x=some (.c (.s (.int kx zi)))) (hzi:zi=n) (hn:c < n) (hle:n≤1000000000)
    (hz:(P.info? e).bind (·.zero)=some z) (hvs:z.cells=vs.toArray) (h1:vs.all Value.oneCell'=true) :
    Ef P N E o F H fun F' H'=>∃c2,n≤c2∧F'=(d,.o H.length 0 n c2) :: F∧H'=H++[.arr e sz c2 (List.replicate n (vs.map cvOf))]:=fun S ρ a w hR=>by
 subst hzi
 obtain⟨g1,_⟩:=hR.ev hs
 obtain⟨g3,_⟩:=hR.ev hx
 obtain⟨inf,z',hi,hz',hsz,hby,hzs⟩:=hE.hi
 obtain rfl:z'=z:=by rw[hi] at hz;simp only[Option.bind_some] at hz;rw[hz'] at hz;exact Option.some.inj hz
 have hrun:=zP6 (P:=P) w t tn o.type e inf z' kx kn hE.ht htn hi hz' ((AV.o b k 0 c).den ρ H |> fun v=>match v with | .slice A _ _=>A|_=>none) c n hn (by rw[hsz];exact hE.hsz) (by omega) (by
  have:2*n*inf.bytes≤2*n*256:=Nat.mul_le_mul_left _ hby
  omega)
 have hge:=grownCap_ge w n c e
 have hcm:grownCap w n c e≤maxLen:=grownCap_le_maxLen w n c e (by simp only[maxLen];omega)
 have hvl:vs.length=sz:=by rw[←hzs,hvs];simp
 unfold effO
 have hex:(execOp a.eval o).run P w = .ok (.value (.slice (some ⟨w.heap.size,0,none⟩) n (grownCap w n c e))) (w.drew.alloc (.cells (Builtin.zeroCells z'.cells n++Builtin.zeroCells z'.cells (grownCap w n c e - n)) e)):=by
  unfold execOp
  simp only[AV.den,CV.den] at g1 g3 hrun
  simp only[ho,resolve,invoke,builtin,Sem.run_bind,Sem.run_pure,Result.andThen_ok,List.map_toArray,List.map_cons,List.map_nil,g1,g3,hrun]
 rw[hex]
 have hR2:=hR.drew
 have hob:OwnB (w.drew.alloc (.cells (Builtin.zeroCells z'.cells n++Builtin.zeroCells z'.cells (grownCap w n c e - n)) e)) S (ρ++[some w.drew.heap.size]) (H++[.arr e sz (grownCap w n c e) (List.replicate n (vs.map cvOf))]) (.arr e sz (grownCap w n c e) (List.replicate n (vs.map cvOf))) (some w.drew.heap.size):=by
  refine .inr ⟨_,_,rfl,zf2 _ _, ?_,hcm,by simpa using hge,fun row hrow=>?_,fun k' j row u hk hj=>?_⟩
  ·simp only[Array.size_append,size_zeroCells,hzs,←Nat.add_mul]
   congr 1;omega
  ·have:=List.eq_of_mem_replicate hrow
   subst this
   refine⟨by simp[hvl],fun u hu=>?_⟩
   obtain⟨v,hv,rfl⟩:=List.mem_map.1 hu
   exact⟨zM2 _ _ _,by rw[zO1];exact List.all_eq_true.1 h1 v hv⟩
  ·rw[List.getElem?_replicate] at hk
   split at hk
   ·rename_i hkc
    injection hk with hk
    subst hk
    rw[List.getElem?_map] at hj
    cases hv:vs[j]? with
    | none=>rw[hv] at hj;cases hj
    | some v=>
     rw[hv] at hj
     simp only[Option.map_some,Option.some.injEq] at hj
     subst hj
     have hjl:j < sz:=by rw[←hvl];exact(List.getElem?_eq_some_iff.1 hv).1
     have hlt:k'*sz+j < n*sz:=by
      have:(k'+1)*sz≤n*sz:=Nat.mul_le_mul_right sz hkc
      rw[Nat.add_mul] at this
      omega
     rw[zO1,Array.getElem?_append,if_pos (by rw[size_zeroCells,hzs];exact hlt)]
     have hlt':k'*sz+j < n*z'.cells.size:=by rw[hzs];exact hlt
     simp only[Builtin.zeroCells,Array.getElem?_map,Array.getElem?_range,hlt',if_true,Option.map_some]
     rw[hzs,show (k'*sz+j) % sz=j from by rw[Nat.add_comm,Nat.add_mul_mod_self_right,Nat.mod_eq_of_lt hjl]]
     congr 1
     have:z'.cells[j]?=some v:=by rw[hvs];simpa using hv
     rw[getElem!_def,this]
   ·cases hk
 have hR3:=hR2.new _ e _ hob
 refine⟨S,ρ++[some w.drew.heap.size],_,_,⟨grownCap w n c e,hge,rfl,rfl⟩, ?_⟩
 rw[hd]
 have:=hR3.put hN (za5 hR2.hp (ob:=.arr e sz (grownCap w n c e) (List.replicate n (vs.map cvOf))) (n:=n) (c:=grownCap w n c e) hge (Nat.le_refl _))
 rw[zB4 hR2.hp] at this
 exact this
end
end Go.Proofs.YtophoepbedlhjaaGreatDoor
-- NEWM
namespace Go.Proofs.YtophoepbedlhjaaGreatDoor
open Go Go.RowKit
set_option maxRecDepth 100000
def catR (ps:List (Value × List (List CV))):List (List CV):=ps.flatMap (·.2)
theorem zP5 {ps:List (Value × List (List CV))} {k:Nat} {p:Value × List (List CV)} (h:ps[k]?=some p):catR (ps.take (k+1))=catR (ps.take k)++p.2:=by
 rw[catR,List.take_add_one,h,List.flatMap_append];simp[catR]
theorem zo16 {ps:List (Value × List (List CV))} (k:Nat):(catR (ps.take k)).length≤(catR ps).length:=by
 conv=>rhs;rw[←List.take_append_drop k ps]
 rw[catR,catR,List.flatMap_append,List.length_append];omega
theorem zz8 {ps:List (Value × List (List CV))} {k:Nat} {p:Value × List (List CV)} (h:ps[k]?=some p):(catR (ps.take k)).length+p.2.length≤(catR ps).length:=by
 have:=zo16 (ps:=ps) (k+1)
 rw[zP5 h,List.length_append] at this
 exact this
theorem zX15 (n:Nat) (hn:n≤1000000):ACalls Tryz.prog 58 [.c (.r (.slice none 0 0) []),.c (I n)] [] fun u H=>∃(c:Nat) (rows:List (List CV)),n≤c∧u = .o 0 0 0 c∧H = [.arr 37 10 c rows]:=by
 refine zf (N:=27) Tryz.func58 rfl rfl (by simp) fun E hE=>?_
 refine zQ4 (wkg (K:=fun F H=>F = [(0,.o 0 0 0 0),(1,.c (I n))]∧H = [.arr 37 10 0 []]) [none] (fun _=>[(0,.o 0 0 0 0),(1,.c (I n))]) (fun _=>[.arr 37 10 0 []]) (fun _=>⟨rfl,rfl⟩)) ?_
 rintro F H ⟨rfl,rfl⟩
 refine WA ?_
 refine WA ?_
 refine za rfl ?_
 refine ZZ ?_
 rcases Nat.eq_zero_or_pos n with h0|hp
 ·refine WA ?_
  refine WA ?_
  refine za rfl ?_
  refine WA ?_
  exact zN4 [some 0] (fun _=>[.arr 37 10 0 []]) rfl rfl rfl rfl rfl (by decide) (ZNK rfl) ZCH (fun _=>⟨0,[],by omega,rfl,rfl⟩)
 ·refine WA ?_
  refine WA ?_
  refine zb rfl ?_
  refine ZR ?_
  iterate 3 refine WX1 ?_
  refine ZA (zU11 (l:=0) (h:=0) rfl (KE (t:=38) rfl) rfl rfl (.inl ⟨rfl,rfl⟩) (.inr ⟨_,_,_,rfl,rfl,rfl⟩) rfl rfl) ?_
  refine WO ?_
  refine ze rfl (zg16 (n:=n) rfl rfl (by decide) (KA (t:=38) rfl) Tryz.underlying3 rfl rfl rfl (by omega) (by omega) (by omega) (KZ (t:=37) rfl) rfl rfl) ?_
  rintro _ _ ⟨c2,hc2,rfl,rfl⟩
  iterate 2 refine WX1 ?_
  refine ZA (zP9 (l:=0) (h:=0) rfl (KE (t:=38) rfl) rfl rfl (.inl ⟨rfl,rfl⟩) (.inr ⟨_,_,_,rfl,rfl,rfl⟩) (by omega) (by omega) (by omega)) ?_
  refine WE ?_
  refine WA ?_
  exact zN4 [some 1] (fun _=>[.arr 37 10 c2 (List.replicate n [T [],I 0,I 0,I 0,T [],T [],T [],I 0,T [],I 0])]) rfl rfl rfl rfl rfl (by decide) (ZNK rfl) ZCH (fun _=>⟨c2,_,by omega,rfl,rfl⟩)
theorem zR12 (ps:List (Value × List (List CV))) (v:Value) (hR:∀p∈ps,OkR 10 p.2) (h1:1≤ps.length) (hl:ps.length≤1000) (hn:(catR ps).length≤1000000) :
    ACalls Tryz.prog 12 [.c (.r v (ps.map fun p=>[.r p.1 p.2]))] [] fun u H=>∃(c:Nat),(catR ps).length≤c∧u = .o 0 0 (catR ps).length c∧H = [.arr 37 10 c (catR ps)]:=by
 have e1:(ps.map fun p=>[CV.r p.1 p.2]).length=ps.length:=by simp
 refine zf (N:=36) Tryz.func12 rfl rfl (by simp) fun E hE=>?_
 refine WA ?_
 refine WA ?_
 refine WA ?_
 refine zq (fun m F H=>∃(k:Nat),m+k=ps.length∧F = [(0,.c (.r v (ps.map fun p=>[.r p.1 p.2]))),(3,.c (I (catR (ps.take k)).length)),(9,.c (.r v (ps.map fun p=>[.r p.1 p.2]))),(10,.c (I (ps.map fun p=>[CV.r p.1 p.2]).length)),(11,.c (I k))]∧H = []) ?_ ?_
 ·refine zZ2 [] (fun _=>[(0,.c (.r v (ps.map fun p=>[.r p.1 p.2]))),(3,.c (I (catR (ps.take 0)).length)),(9,.c (.r v (ps.map fun p=>[.r p.1 p.2]))),(10,.c (I (ps.map fun p=>[CV.r p.1 p.2]).length)),(11,.c (I (0:Nat)))]) (fun _=>_) (by decide) (ZNL hE) ZCF (fun _=>.nil) (fun _=>?_)
  exact⟨ps.length,0,by omega,rfl,rfl⟩
 ·rintro m F H ⟨k,hk,rfl,rfl⟩
  refine WA ?_
  refine zl rfl (fun hlt=>?_) (fun hge=>?_)
  ·obtain⟨p,hp⟩:∃p,ps[k]?=some p:=⟨_,List.getElem?_eq_getElem (by omega)⟩
   have hrow:(ps.map fun p=>[CV.r p.1 p.2])[k]?=some [.r p.1 p.2]:=by rw[List.getElem?_map,hp];rfl
   have hpl:=zz8 hp
   refine WA ?_
   refine WA ?_
   refine WA ?_
   refine za rfl ?_
   refine WA ?_
   refine zZ2 [] (fun _=>[(0,.c (.r v (ps.map fun p=>[.r p.1 p.2]))),(3,.c (I (((catR (ps.take k)).length:Int)+p.2.length))),(9,.c (.r v (ps.map fun p=>[.r p.1 p.2]))),(10,.c (I (ps.map fun p=>[CV.r p.1 p.2]).length)),(11,.c (I (k+1:Nat)))]) (fun _=>_) (by decide) (ZNL hE) ZCF (fun _=>.nil) (fun _=>?_)
   exact⟨m - 1,by omega,k+1,by omega,by rw[zP5 hp,List.length_append];rfl,rfl⟩
  obtain rfl:k=ps.length:=by omega
  refine ZZ ?_
  have e3:((catR (ps.take ps.length)).length:Int)=(catR ps).length:=by rw[List.take_length]
  refine zQ4 (zZ2 (K:=fun F H=>F = [(0,.c (.r v (ps.map fun p=>[.r p.1 p.2]))),(3,.c (I (catR ps).length))]∧H = []) [] (fun _=>[(0,.c (.r v (ps.map fun p=>[.r p.1 p.2]))),(3,.c (I (catR ps).length))]) (fun _=>_) (by decide) (ZNL hE) (fun _=>.cons rfl (.c rfl) (.cons rfl (.c (by rw[e3])) .nil)) (fun _=>.nil) (fun _=>⟨rfl,rfl⟩)) ?_
  rintro F H ⟨rfl,rfl⟩
  refine WR ?_
  refine ze rfl (efk (c:=fun _=>zX15 (catR ps).length (by omega))) ?_
  rintro _ _ ⟨_,_,_,⟨c,rows,hc,rfl,rfl⟩,hF,hH⟩
  (refine NST hF hH ?_;clear hF hH;rintro rfl rfl)
  refine WE ?_
  refine WA ?_
  refine zq (fun m F H=>∃(k c:Nat) (rows:List (List CV)),m+k=ps.length∧(catR (ps.take k)).length≤c∧(catR ps).length≤c∧(catR (ps.take k)).length≤rows.length∧rows.take (catR (ps.take k)).length=catR (ps.take k)∧(1≤k→rows=catR (ps.take k))∧F = [(6,.o 0 0 (catR (ps.take k)).length c),(25,.c (.r v (ps.map fun p=>[.r p.1 p.2]))),(26,.c (I (ps.map fun p=>[CV.r p.1 p.2]).length)),(27,.c (I k))]∧H = [.arr 37 10 c rows]) ?_ ?_
  ·refine zZ2 [some 0] (fun _=>[(6,.o 0 0 (catR (ps.take 0)).length c),(25,.c (.r v (ps.map fun p=>[.r p.1 p.2]))),(26,.c (I (ps.map fun p=>[CV.r p.1 p.2]).length)),(27,.c (I (0:Nat)))]) (fun _=>_) (by decide) (ZNL hE) ZCF ZCH (fun _=>?_)
   exact⟨ps.length,0,c,rows,by omega,by simp[catR],hc,by simp[catR],by simp[catR],by omega,rfl,rfl⟩
  rintro m F H ⟨k,c,rows,hk,hc1,hc,hq,hrt,hre,rfl,rfl⟩
  refine WA ?_
  refine zl rfl (fun hlt=>?_) (fun hge=>?_)
  ·obtain⟨p,hp⟩:∃p,ps[k]?=some p:=⟨_,List.getElem?_eq_getElem (by omega)⟩
   have hrow:(ps.map fun p=>[CV.r p.1 p.2])[k]?=some [.r p.1 p.2]:=by rw[List.getElem?_map,hp];rfl
   have hpl:=zz8 hp
   have hnx:=zP5 hp
   refine WA ?_
   refine WR ?_
   refine ze rfl (zj16 (b:=0) (n:=(catR (ps.take k)).length) (cap:=c) (news:=p.2) rfl rfl (by decide) (KA (t:=38) rfl) rfl rfl hq rfl (.ro (fun r h=>(hR p (List.mem_of_getElem? hp) r h).1) (fun r h=>(hR p (List.mem_of_getElem? hp) r h).2)) (by omega)) ?_
   rintro F1 H1 ⟨_,c2,hc2,hcf,hF,hH⟩
   obtain rfl:c=c2:=(hcf (by omega)).symm
   (refine NSU hF hH ?_;clear hF hH;rintro rfl rfl)
   refine WE ?_
   refine WA ?_
   refine zZ2 [some 0] (fun _=>[(6,.o 0 0 (catR (ps.take (k+1))).length _),(25,.c (.r v (ps.map fun p=>[.r p.1 p.2]))),(26,.c (I (ps.map fun p=>[CV.r p.1 p.2]).length)),(27,.c (I (k+1:Nat)))]) (fun _=>_) (by decide) (ZNL hE) (fun _=>.cons rfl (.o rfl (by rw[hnx,List.length_append])) (.cons rfl (.c rfl) (.cons rfl (.c rfl) (.cons rfl (.c (by simp)) .nil)))) ZCH (fun _=>?_)
   exact⟨m - 1,by omega,k+1,_,_,by omega,by rw[hnx,List.length_append];omega,hc,by rw[hnx,hrt];simp,by rw[hnx,hrt,List.take_length],fun _=>by rw[hnx,hrt],rfl,rfl⟩
  obtain rfl:k=ps.length:=by omega
  obtain rfl:rows=catR ps:=by have:=hre h1;rwa [List.take_length] at this
  refine WA ?_
  exact zN4 [some 0] (fun _=>[.arr 37 10 c (catR ps)]) rfl rfl rfl (by rw[List.take_length]) rfl (by decide) (ZNK rfl) ZCH (fun _=>⟨c,hc,rfl,rfl⟩)
end Go.Proofs.YtophoepbedlhjaaGreatDoor
-- NEWM
namespace Go.Proofs.YtophoepbedlhjaaGreatDoor
open Go Go.RowKit
set_option maxRecDepth 100000
def fndN (out:List Nt) (x:Nt):Option Nt:=out.find? fun o=>snB o x
theorem snB_ky {a b:Nt}:snB a b=true↔ky a=ky b:=by simp[snB]
def mrg:List Nt→List Nt→Option (List Nt)
 | out,[]=>some out
 | out,x :: l=>if (fndN out x).isNone then mrg (out++[x]) l else if fndN out x=some x then mrg out l else none
theorem zh7 {out l:List Nt} {x:Nt} (h:fndN out x=none):mrg out (x :: l)=mrg (out++[x]) l:=by rw[mrg,h];rfl
theorem zb9 {out l:List Nt} {x:Nt} (h:fndN out x=some x):mrg out (x :: l)=mrg out l:=by rw[mrg,h];simp
theorem zL15 {out l:List Nt} {x o:Nt} (h:fndN out x=some o) (hn:¬o=x):mrg out (x :: l)=none:=by rw[mrg,h];simp[hn]
theorem fndN_none {out:List Nt} {x:Nt}:fndN out x=none↔ky x∉out.map ky:=by
 unfold fndN
 rw[List.find?_eq_none]
 constructor
 ·intro h hm
  obtain⟨o,ho,e⟩:=List.mem_map.1 hm
  exact h o ho (snB_ky.2 e)
 ·intro h o ho e
  exact h (List.mem_map.2 ⟨o,ho,snB_ky.1 e⟩)
theorem zo12:∀(a b p:List Nt),((p++a).map ky).Nodup→mrg p (a++b)=mrg (p++a) b
 | [],b,p,_=>by simp
 | x :: a,b,p,h=>by
  have e:p++x :: a=(p++[x])++a:=by simp
  rw[e] at h ⊢
  have hn:fndN p x=none:=fndN_none.2 fun hm=>by
   rw[List.map_append,List.map_append] at h
   have h2:=(List.nodup_append.1 (List.nodup_append.1 h).1).2.2
   exact h2 _ hm _ (by simp) rfl
  rw[List.cons_append,zh7 hn]
  exact zo12 a b (p++[x]) h
theorem zz5:∀(l out r:List Nt),(out.map ky).Nodup→mrg out l=some r→(r.map ky).Nodup
 | [],out,r,h,e=>by simp[mrg] at e;rw[←e];exact h
 | x :: l,out,r,h,e=>by
  by_cases h1:fndN out x=none
  ·rw[zh7 h1] at e
   refine zz5 l _ r ?_ e
   rw[List.map_append]
   exact List.nodup_append.2 ⟨h,by simp,fun a ha b hb e2=>by
    simp at hb;subst hb;subst e2
    exact fndN_none.1 h1 ha⟩
  ·by_cases h2:fndN out x=some x
   ·rw[zb9 h2] at e;exact zz5 l out r h e
   ·rw[mrg,if_neg (by simpa using h1),if_neg h2] at e;cases e
theorem zL11:∀{a b:List Nt},a.Perm b→(a.map ky).Nodup→(a.Pairwise fun x y=>¬cmpNt y x < 0)→(b.Pairwise fun x y=>¬cmpNt y x < 0)→a=b:=by
 intro a b hp hn ha hb
 refine List.Perm.eq_of_pairwise (le:=fun x y=>¬cmpNt y x < 0) (fun x y hx hy h1 h2=>?_) ha hb hp
 have n1:=zo3 x y
 have h0:cmpNt x y=0:=by omega
 obtain⟨_,e2,e3⟩:=(zo9 x y).1 h0
 have hy':y∈a:=hp.symm.subset hy
 have hk:ky x=ky y:=by simp[e2,e3]
 have hinj:∀{l:List Nt},(l.map ky).Nodup→∀{x y:Nt},x∈l→y∈l→ky x=ky y→x=y:=by
  intro l
  induction l with
  | nil=>intro _ x y hx;cases hx
  | cons z l ih=>
   intro h x y hx hy e
   rw[List.map_cons,List.nodup_cons] at h
   rcases List.mem_cons.1 hx with e1|hx2 <;> rcases List.mem_cons.1 hy with e2|hy2
   ·exact e1.trans e2.symm
   ·exact absurd (List.mem_map.2 ⟨y,hy2,by rw[←e,e1]⟩) h.1
   ·exact absurd (List.mem_map.2 ⟨x,hx2,by rw[e,e2]⟩) h.1
   ·exact ih h.2 hx2 hy2 e
 exact hinj hn hx hy' hk
def zN:Nt:=⟨[],0,0,0,[],[],[],0,[],0⟩
def encN:Enc Nt:=⟨fun a=>.agg #[.string (bst a.st),.int .i64 a.no,.int .i64 a.at_,.int .i64 a.kd,.string (bst a.pr),.string (bst a.jb),.string (bst a.sp),.int .i64 a.n,.string (bst a.of_),.int .i64 a.ot],fun a=>noA a,fun a ρ H=>rfl,fun a w S ρ H=>.a fun x hx=>by
 obtain⟨u,hu,rfl⟩:=List.mem_map.1 hx
 simp only[noR,List.mem_cons,List.not_mem_nil,or_false] at hu
 rcases hu with rfl|rfl|rfl|rfl|rfl|rfl|rfl|rfl|rfl|rfl <;> exact .c (.s _)⟩
theorem zj17 {N:Nat} {E:Env} {F:Fm} {H:List OB} {o:Oper} {x ix:Operand} {b ck:Nat} {l:List (Nat × (List UInt8 × Int) × Nt)} {k:List UInt8 × Int} {y:Nt} {q:Bool} (hq:(mget l k).getD zN=y) (hq2:(mget l k).isSome=q) (ho:o.op = .lookup 170 x ix true)
    (hx:ev F x=some (.mp b)) (hH:H[b]?=some (mpO encO encN l ck)) (hi:ev F ix=some (encO.x k)):Rd Tryz.prog N E o F H (.t [noA y,.c (B q)]):=by
 have:=zh6 (N:=N) (E:=E) (ke:=encO) (ve:=encN) (k:=k) (z:=zN) keyO ho Tryz.underlying170 (by kernel_rfl) hx hH hi (fun ρ H=>encO.den k ρ H)
 rwa [hq,hq2] at this
theorem zN17 {N:Nat} {E:Env} {F:Fm} {H:List OB} {o:Oper} {x ix y:Operand} {b ck:Nat} {l:List (Nat × (List UInt8 × Int) × Nt)} {k:List UInt8 × Int} {z:Nt} (ho:o.op = .mapUpdate 170 x ix y) (hd:o.dst=none)
    (hx:ev F x=some (.mp b)) (hH:H[b]?=some (mpO encO encN l ck)) (hi:ev F ix=some (encO.x k)) (hy:ev F y=some (noA z)):Ef Tryz.prog N E o F H fun F' H'=>F'=F∧H'=H.set b (mpO encO encN (mset ck k z l) (mclk ck k l)):=
 zl3 (ke:=encO) (ve:=encN) (k:=k) (z:=z) keyO ho hd Tryz.underlying170 hx hH hi (fun ρ H=>encO.den k ρ H) hy (fun ρ H=>encN.den z ρ H)
end Go.Proofs.YtophoepbedlhjaaGreatDoor
-- NEWM
namespace Go.Proofs.YtophoepbedlhjaaGreatDoor
open Go Go.RowKit
set_option maxRecDepth 100000
def mrE:Option (List Nt)→Int
 | none=>13
 | some r=>if 2000 < r.length then 2 else 0
end Go.Proofs.YtophoepbedlhjaaGreatDoor
-- NEWM
namespace Go.Proofs.YtophoepbedlhjaaGreatDoor
open Go Go.RowKit
set_option maxRecDepth 100000
theorem zX11 {N:Nat} {E:Env} {F:Fm} {H:List OB} {o:Oper} {x ix:Operand} {b ck:Nat} {l:List (Nat × (List UInt8 × Int) × Nt)} {k:List UInt8 × Int} {o0 o4 o5 o6 o8:List UInt8} {o1 o2 o3 o7 o9:Int} {q:Bool} (hq:(mget l k).getD zN=⟨o0,o1,o2,o3,o4,o5,o6,o7,o8,o9⟩) (hq2:(mget l k).isSome=q) (ho:o.op = .lookup 170 x ix true)
    (hx:ev F x=some (.mp b)) (hH:H[b]?=some (mpO encO encN l ck)) (hi:ev F ix=some (encO.x k)):Rd Tryz.prog N E o F H (.t [.a [.c (T o0),.c (I o1),.c (I o2),.c (I o3),.c (T o4),.c (T o5),.c (T o6),.c (I o7),.c (T o8),.c (I o9)],.c (B q)]):=zj17 hq hq2 ho hx hH hi
theorem zc16 {N:Nat} {E:Env} {F:Fm} {H:List OB} {o:Oper} {x ix y:Operand} {b ck:Nat} {l:List (Nat × (List UInt8 × Int) × Nt)} {k:List UInt8 × Int} {o0 o4 o5 o6 o8:List UInt8} {o1 o2 o3 o7 o9:Int} (ho:o.op = .mapUpdate 170 x ix y) (hd:o.dst=none)
    (hx:ev F x=some (.mp b)) (hH:H[b]?=some (mpO encO encN l ck)) (hi:ev F ix=some (encO.x k)) (hy:ev F y=some (.a [.c (T o0),.c (I o1),.c (I o2),.c (I o3),.c (T o4),.c (T o5),.c (T o6),.c (I o7),.c (T o8),.c (I o9)])):Ef Tryz.prog N E o F H fun F' H'=>F'=F∧H'=H.set b (mpO encO encN (mset ck k ⟨o0,o1,o2,o3,o4,o5,o6,o7,o8,o9⟩ l) (mclk ck k l)):=zN17 ho hd hx hH hi hy
theorem zY15 (out:List Nt) (x:Nt):fndN out x=out.find? fun o=>decide (ky o=ky x):=by
 unfold fndN
 congr 1
 funext o
 rw[Bool.eq_iff_iff,snB_ky,decide_eq_true_eq]
theorem noFlat {K:CV→Prop} (l:List Nt):∀row∈noRs l,∀u∈row,u.flat∨K u:=fun row hr u hu=>by
 obtain⟨x,_,rfl⟩:=List.mem_map.1 hr
 simp only[noR,List.mem_cons,List.not_mem_nil,or_false] at hu
 rcases hu with rfl|rfl|rfl|rfl|rfl|rfl|rfl|rfl|rfl|rfl <;> exact .inl trivial
def mgE (a b:List Nt):Int:=if chkN a≠0 then chkN a else if chkN b≠0 then chkN b else mrE (mrg a b)
theorem zv6 {a:List Nt} (h:chkN a=0):(a.map ky).Nodup∧a.length≤2000:=by
 unfold chkN at h
 split at h
 ·cases h
 split at h
 ·rename_i h1;exact absurd h h1
 split at h
 ·rename_i h1;exact⟨h1,by omega⟩
 ·cases h
set_option maxHeartbeats 4000000 in
theorem zp12 (va vb:Value) (a b:List Nt) (ha:a.length≤400000) (hb:b.length≤400000) (has:∀x∈a,NtS x) (hbs:∀x∈b,NtS x):ACalls Tryz.prog 36 [.c (.r va (noRs a)),.c (.r vb (noRs b))] [] fun u H=>∃(e:Int) (r:List Nt) (c:Nat),e=mgE a b∧(e=0→∃out,mrg a b=some out∧r.Perm out∧r.Pairwise fun x y=>¬cmpNt y x < 0)∧(e≠0→r = [])∧r.length≤c∧u = .t [.o 0 0 r.length c,.c (I e)]∧H = [.arr 37 10 c (noRs r)]:=by
 have e1:(noRs a).length=a.length:=by simp
 have e2:(noRs b).length=b.length:=by simp
 have hcat:catR [(va,noRs a),(vb,noRs b)]=noRs (a++b):=by simp[catR]
 have hclen:(catR [(va,noRs a),(vb,noRs b)]).length≤1000000:=by rw[hcat];simp;omega
 have hokc:∀p∈[(va,noRs a),(vb,noRs b)],OkR 10 p.2:=fun p hp=>by
  simp only[List.mem_cons,List.not_mem_nil,or_false] at hp
  rcases hp with rfl|rfl
  ·exact okNo a
  ·exact okNo b
 have hfail:∀e:Int,e=mgE a b→e≠0→∃(e':Int) (r:List Nt) (c:Nat),e'=mgE a b∧(e'=0→∃out,mrg a b=some out∧r.Perm out∧r.Pairwise fun x y=>¬cmpNt y x < 0)∧(e'≠0→r = [])∧r.length≤c∧(AV.t [.o 0 0 0 0,.c (I e)]) = .t [.o 0 0 r.length c,.c (I e')]∧[OB.arr 37 10 0 []] = [.arr 37 10 c (noRs r)]:=fun e h1 h2=>⟨e,[],0,h1,fun h=>absurd h h2,fun _=>rfl,Nat.le_refl _,rfl,rfl⟩
 refine zf (N:=72) Tryz.func36 rfl rfl (by simp) fun E hE=>?_
 refine WA ?_
 refine WA ?_
 refine zq (fun m F H=>∃(k:Nat),m+k=2∧(1≤k→chkN a=0)∧(2≤k→chkN b=0)∧F = [(0,.c (.r va (noRs a))),(1,.c (.r vb (noRs b))),(4,.c (.r (.slice none 0 0) [])),(5,.c (I 0)),(18,.o 0 0 2 2),(19,.c (I 2)),(20,.c (I k))]∧H = [.arr 38 1 2 [[.r va (noRs a)],[.r vb (noRs b)]]]) ?_ ?_
 ·refine wkg [some 0] (fun _=>[(0,.c (.r va (noRs a))),(1,.c (.r vb (noRs b))),(4,.c (.r (.slice none 0 0) [])),(5,.c (I 0)),(18,.o 0 0 2 2),(19,.c (I 2)),(20,.c (I (0:Nat)))]) (fun _=>[.arr 38 1 2 [[.r va (noRs a)],[.r vb (noRs b)]]]) (fun _=>?_)
  exact⟨2,0,by omega,fun h=>absurd h (by omega),fun h=>absurd h (by omega),rfl,rfl⟩
 rintro m F H ⟨k,hk,hka,hkb,rfl,rfl⟩
 refine WA ?_
 refine zl rfl (fun hlt=>?_) (fun hge=>?_)
 ·have hk2:k=0∨k=1:=by omega
  rcases hk2 with rfl|rfl
  ·have hra:([[CV.r va (noRs a)],[CV.r vb (noRs b)]]:List (List CV))[0+0]?=some [.r va (noRs a)]:=rfl
   refine WA ?_
   refine WR ?_
   refine ze rfl (efk (c:=fun _=>za2 va a (by omega) has)) ?_
   rintro _ _ ⟨_,_,_,⟨rfl,rfl⟩,hF,hH⟩
   (refine NST hF hH ?_;clear hF hH;rintro rfl rfl)
   refine WE ?_
   refine WA ?_
   refine zl rfl (fun h1=>?_) (fun h1=>?_)
   ·refine WA ?_
    exact zA (us:=[.c (.r (.slice none 0 0) []),.c (I (chkN a))]) [none] (fun _=>.t [.o 0 0 0 0,.c (I (chkN a))]) (fun _=>[.arr 37 10 0 []]) (.tmp rfl (.tmp rfl .nil)) (by decide) (ZNK rfl) (fun _=>.tL (.cons (.nil rfl) (.cons (.c rfl) .nil))) ZCH (fun _=>hfail _ (by rw[mgE,if_pos h1]) h1)
   ·refine WA ?_
    refine wkg [some 0] (fun _=>[(0,.c (.r va (noRs a))),(1,.c (.r vb (noRs b))),(4,.c (.r (.slice none 0 0) [])),(5,.c (I 0)),(18,.o 0 0 2 2),(19,.c (I 2)),(20,.c (I (1:Nat)))]) (fun _=>[.arr 38 1 2 [[.r va (noRs a)],[.r vb (noRs b)]]]) (fun _=>?_)
    exact⟨1,by omega,1,by omega,fun _=>by omega,fun h=>absurd h (by omega),rfl,rfl⟩
  ·have ha0:=hka (Nat.le_refl _)
   have hra:([[CV.r va (noRs a)],[CV.r vb (noRs b)]]:List (List CV))[0+1]?=some [.r vb (noRs b)]:=rfl
   refine WA ?_
   refine WR ?_
   refine ze rfl (efk (c:=fun _=>za2 vb b (by omega) hbs)) ?_
   rintro _ _ ⟨_,_,_,⟨rfl,rfl⟩,hF,hH⟩
   (refine NST hF hH ?_;clear hF hH;rintro rfl rfl)
   refine WE ?_
   refine WA ?_
   refine zl rfl (fun h1=>?_) (fun h1=>?_)
   ·refine WA ?_
    exact zA (us:=[.c (.r (.slice none 0 0) []),.c (I (chkN b))]) [none] (fun _=>.t [.o 0 0 0 0,.c (I (chkN b))]) (fun _=>[.arr 37 10 0 []]) (.tmp rfl (.tmp rfl .nil)) (by decide) (ZNK rfl) (fun _=>.tL (.cons (.nil rfl) (.cons (.c rfl) .nil))) ZCH (fun _=>hfail _ (by rw[mgE,if_neg (by rw[ha0];simp),if_pos h1]) h1)
   ·refine WA ?_
    refine wkg [some 0] (fun _=>[(0,.c (.r va (noRs a))),(1,.c (.r vb (noRs b))),(4,.c (.r (.slice none 0 0) [])),(5,.c (I 0)),(18,.o 0 0 2 2),(19,.c (I 2)),(20,.c (I (2:Nat)))]) (fun _=>[.arr 38 1 2 [[.r va (noRs a)],[.r vb (noRs b)]]]) (fun _=>?_)
    exact⟨0,by omega,2,by omega,fun _=>ha0,fun _=>by omega,rfl,rfl⟩
 have ha0:=hka (by omega)
 have hb0:=hkb (by omega)
 have hE0:mgE a b=mrE (mrg a b):=by rw[mgE,if_neg (by rw[ha0];simp),if_neg (by rw[hb0];simp)]
 have hLm:mrg [] (a++b)=mrg a b:=by rw[zo12 a b [] (by simpa using (zv6 ha0).1)];rfl
 refine ZR ?_
 refine ze rfl (zz1 rfl rfl (by decide)) ?_
 rintro _ _ ⟨rfl,rfl⟩
 refine WE ?_
 refine WA ?_
 refine WR ?_
 refine ze rfl (zz true (fun g=>zR12 [(va,noRs a),(vb,noRs b)] (g (.o 2 0 2 2)) hokc (by simp) (by simp) hclen) rfl .fn rfl (by decide) (by kernel_rfl) rfl (fun _=>.cons (.frz rfl rfl rfl rfl rfl) .nil) (fun _ _ u Hr ⟨c,_,hu,hH⟩=>by rw[hu,hH];exact⟨.o,fun o ho=>by rw[List.mem_singleton] at ho;subst ho;rw[hcat];exact noFlat _⟩)) ?_
 rintro _ _ ⟨_,_,_,⟨cL,hcL,rfl,rfl⟩,hF,hH⟩
 rw[hcat] at hF hH hcL
 (refine NST hF hH ?_;clear hF hH;rintro rfl rfl)
 refine WE ?_
 generalize hLL:a++b=L at *
 have e3:(noRs L).length=L.length:=by simp
 refine zq (fun m F H=>∃(v:Value) (k mk:Nat) (out:List Nt) (cp:Nat) (ml:List (Nat × (List UInt8 × Int) × Nt)),m+k=L.length∧mrg out (L.drop k)=mrg a b∧(∀s,mget ml s=out.find? fun o=>decide (ky o=s))∧out.length≤cp∧out.length≤k∧F = [(4,.c (.r (.slice none 0 0) [])),(5,.c (I 0)),(9,.mp 1),(10,.o 0 0 out.length cp),(34,.c (.r v (noRs L))),(35,.c (I (noRs L).length)),(36,.c (I k))]∧H = [.arr 37 10 cp (noRs out),mpO encO encN ml mk]) ?_ ?_
 ·refine wkg [none,some 1] (fun g=>[(4,.c (.r (.slice none 0 0) [])),(5,.c (I 0)),(9,.mp 1),(10,.o 0 0 0 0),(34,.c (.r (g (.o 3 0 (noRs L).length cL)) (noRs L))),(35,.c (I (noRs L).length)),(36,.c (I (0:Nat)))]) (fun _=>[.arr 37 10 0 [],mpO encO encN [] 0]) (fun g=>?_) (hF:=fun g=>.cons rfl (.c rfl) (.cons rfl (.c rfl) (.cons rfl (.mp rfl) (.cons rfl (.nil rfl) (.cons rfl (.frz rfl rfl (by rw[List.drop_zero,List.take_of_length_le (Nat.le_refl _)]) rfl rfl) (.cons rfl (.c rfl) (.cons rfl (.c rfl) .nil)))))))
  exact⟨L.length,_,0,0,[],0,[],by omega,hLm,fun s=>rfl,Nat.le_refl _,Nat.le_refl _,rfl,rfl⟩
 rintro m F H ⟨v,k,mk,out,cp,ml,hkk,hf,hml,hcp,hol,rfl,rfl⟩
 have hLl:L.length≤800000:=by rw[←hLL,List.length_append];omega
 refine WA ?_
 refine zl rfl (fun hlt2=>?_) (fun hge2=>?_)
 ·obtain⟨x,hx⟩:∃n,L[k]?=some n:=⟨_,List.getElem?_eq_getElem (by omega)⟩
  have hrow0:=zC1 hx
  rw[zm3 hx] at hf
  have hfk:=zY15 out x
  have hmx:=hml (ky x)
  rw[←hfk] at hmx
  obtain⟨st,no,at_,kn,pr,jb,sp,n,of_,ot⟩:=x
  have hmx':mget ml (st,no)=fndN out ⟨st,no,at_,kn,pr,jb,sp,n,of_,ot⟩:=hmx
  have hrow:(noRs L)[k]?=some [T st,I no,I at_,I kn,T pr,T jb,T sp,I n,T of_,I ot]:=hrow0
  refine WA ?_
  refine WA ?_
  cases hfx:fndN out ⟨st,no,at_,kn,pr,jb,sp,n,of_,ot⟩ with
  | none=>
   rw[hfx] at hmx'
   have q1:(mget ml (st,no)).getD zN=⟨[],0,0,0,[],[],[],0,[],0⟩:=by rw[hmx'];rfl
   have q2:(mget ml (st,no)).isSome=false:=by rw[hmx'];rfl
   rw[zh7 hfx] at hf
   refine ZR ?_
   iterate 2 refine WX1 ?_
   refine ZA (zX11 (k:=(st,no)) (l:=ml) (ck:=mk) q1 q2 rfl rfl rfl rfl) ?_
   refine WE ?_
   refine WA ?_
   refine zb rfl ?_
   refine ZR ?_
   iterate 3 refine WX1 ?_
   refine ze rfl (zc16 (k:=(st,no)) (l:=ml) (ck:=mk) rfl rfl rfl rfl rfl rfl) ?_
   rintro _ _ ⟨rfl,rfl⟩
   refine WE ?_
   refine WR ?_
   refine ze rfl (Zapp (news:=[[T st,I no,I at_,I kn,T pr,T jb,T sp,I n,T of_,I ot]]) (j:=1) (hE:=KA (t:=38) rfl) (hsrc:=.own rfl rfl rfl) (hj:=rfl) (hle:=by omega)) ?_
   rintro _ _ ⟨_,cc,hcc,rfl,rfl⟩
   refine WE ?_
   refine WA ?_
   refine wkg [some 0,some 1] (fun _=>[(4,.c (.r (.slice none 0 0) [])),(5,.c (I 0)),(9,.mp 1),(10,.o 0 0 (out.length+1) cc),(34,.c (.r v (noRs L))),(35,.c (I (noRs L).length)),(36,.c (I (k+1:Nat)))]) (fun _=>[.arr 37 10 cc (noRs out++[[T st,I no,I at_,I kn,T pr,T jb,T sp,I n,T of_,I ot]]),mpO encO encN (mset mk (st,no) ⟨st,no,at_,kn,pr,jb,sp,n,of_,ot⟩ ml) (mclk mk (st,no) ml)]) (fun _=>?_)
   refine⟨m - 1,by omega,v,k+1,mclk mk (st,no) ml,out++[⟨st,no,at_,kn,pr,jb,sp,n,of_,ot⟩],cc,mset mk (st,no) ⟨st,no,at_,kn,pr,jb,sp,n,of_,ot⟩ ml,by omega,hf,fun s=>?_,by simp at hcc ⊢;omega,by simp;omega,by simp,by rw[show noRs (out++[⟨st,no,at_,kn,pr,jb,sp,n,of_,ot⟩])=noRs out++[noR ⟨st,no,at_,kn,pr,jb,sp,n,of_,ot⟩] from List.map_append];rfl⟩
   rw[zY,List.find?_append,←hml]
   by_cases h:s=(st,no)
   ·subst h
    rw[if_pos rfl,hmx']
    simp
   ·rw[if_neg h]
    cases mget ml s with
    | some o=>rfl
    | none=>simp[Ne.symm h]
  | some o=>
   rw[hfx] at hmx'
   obtain⟨o0,o1,o2,o3,o4,o5,o6,o7,o8,o9⟩:=o
   have q1:(mget ml (st,no)).getD zN=⟨o0,o1,o2,o3,o4,o5,o6,o7,o8,o9⟩:=by rw[hmx'];rfl
   have q2:(mget ml (st,no)).isSome=true:=by rw[hmx'];rfl
   obtain⟨ne,hne⟩:∃q,decide (¬(⟨o0,o1,o2,o3,o4,o5,o6,o7,o8,o9⟩:Nt)=⟨st,no,at_,kn,pr,jb,sp,n,of_,ot⟩)=q:=⟨_,rfl⟩
   refine ZR ?_
   iterate 2 refine WX1 ?_
   refine ZA (zX11 (k:=(st,no)) (l:=ml) (ck:=mk) q1 q2 rfl rfl rfl rfl) ?_
   refine WE ?_
   refine WA ?_
   refine za rfl ?_
   refine ZR ?_
   iterate 2 refine WX1 ?_
   refine ZA (zO8 (a:=⟨o0,o1,o2,o3,o4,o5,o6,o7,o8,o9⟩) (b:=⟨st,no,at_,kn,pr,jb,sp,n,of_,ot⟩) hne rfl rfl rfl) ?_
   refine WE ?_
   cases ne with
   | true=>
    refine zb rfl ?_
    refine WA ?_
    rw[zL15 hfx (of_decide_eq_true hne)] at hf
    exact zA (us:=[.c (.r (.slice none 0 0) []),.c (I 13)]) [none] (fun _=>.t [.o 0 0 0 0,.c (I 13)]) (fun _=>[.arr 37 10 0 []]) (.tmp rfl (.tmp rfl .nil)) (by decide) (ZNK rfl) (fun _=>.tL (.cons (.nil rfl) (.cons (.c rfl) .nil))) ZCH (fun _=>hfail _ (by rw[hE0,←hf];rfl) (by decide))
   | false=>
    refine za rfl ?_
    refine WA ?_
    refine wkg [some 0,some 1] (fun _=>[(4,.c (.r (.slice none 0 0) [])),(5,.c (I 0)),(9,.mp 1),(10,.o 0 0 out.length cp),(34,.c (.r v (noRs L))),(35,.c (I (noRs L).length)),(36,.c (I (k+1:Nat)))]) (fun _=>[.arr 37 10 cp (noRs out),mpO encO encN ml mk]) (fun _=>?_)
    exact⟨m - 1,by omega,v,k+1,mk,out,cp,ml,by omega,by rw[←hf,zb9 (by rw[hfx,Decidable.not_not.1 (of_decide_eq_false hne)])],hml,hcp,by omega,rfl,rfl⟩
 rw[List.drop_eq_nil_of_le (by omega)] at hf
 have hm:mrg a b=some out:=by rw[←hf];rfl
 have e4:(noRs out).length=out.length:=by simp
 refine WA ?_
 refine zl rfl (fun h0=>?_) (fun h0=>?_)
 ·refine WA ?_
  exact zA (us:=[.c (.r (.slice none 0 0) []),.c (I 2)]) [none] (fun _=>.t [.o 0 0 0 0,.c (I 2)]) (fun _=>[.arr 37 10 0 []]) (.tmp rfl (.tmp rfl .nil)) (by decide) (ZNK rfl) (fun _=>.tL (.cons (.nil rfl) (.cons (.c rfl) .nil))) ZCH (fun _=>hfail _ (by rw[hE0,hm,mrE,if_pos (by omega)]) (by decide))
 ·refine WR ?_
  refine ze rfl (zQ [0] (fun _=>[.arr 37 10 cp (noRs out)]) false (fun _=>zj15 96 (by kernel_rfl) zC4 out cp (by omega)) rfl .fn rfl (by decide) (by kernel_rfl) rfl ZCH (by decide) ZCH (by simp)) ?_
  rintro F1 H1 ⟨_,_,_,_,⟨r,⟨hrp,hrs⟩,rfl,rfl⟩,hF,hH⟩
  rw[zF] at hF;(refine NSU hF hH ?_;clear hF hH;rintro rfl rfl)
  refine WE ?_
  have hrl:=hrp.length_eq
  refine WA ?_
  exact zA (us:=[.o 0 0 out.length cp,.c (I 0)]) [some 0] (fun _=>.t [.o 0 0 r.length cp,.c (I 0)]) (fun _=>[.arr 37 10 cp (noRs r)]) (.tmp rfl (.tmp rfl .nil)) (by decide) (ZNK rfl) (fun _=>.tL (.cons (.o rfl hrl.symm) (.cons (.c rfl) .nil))) ZCH (fun _=>⟨0,r,cp,by rw[hE0,hm,mrE,if_neg (by omega)],fun _=>⟨out,hm,hrp,hrs⟩,fun h=>absurd rfl h,by omega,rfl,rfl⟩)
end Go.Proofs.YtophoepbedlhjaaGreatDoor
