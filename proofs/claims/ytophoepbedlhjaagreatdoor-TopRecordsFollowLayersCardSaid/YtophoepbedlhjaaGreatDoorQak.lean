/- The logic over values: short forms for walks. -/
import Derived.Test.YtophoepbedlhjaaGreatDoorQaj
set_option linter.unusedSimpArgs false
set_option linter.unusedVariables false
namespace Go.Proofs.YtophoepbedlhjaaGreatDoor
open Go Go.RowKit
section
variable {P:Program} {N:Nat} {E:Env} {F:Fm} {H:List OB} {o:Oper} {Q:Exit→Fm→List OB→Prop} {ops:Array Oper} {rest:List Oper}
variable {t yt:TypeId} {x y:Operand} {m n:Int}
theorem rd_quon (ho:o.op = .binOp .quo t x y yt) (hx:ev F x=some (.c (.s (.int .i64 m)))) (hy:ev F y=some (.c (.s (.int .i64 n)))) (h:0≤m∧m≤9223372036854775807∧1≤n):Rd P N E o F H (.c (.s (.int .i64 (m / n)))):=by
 have h1:=zG10 (P:=P) (N:=N) (E:=E) (H:=H) ho hx hy (by omega)
 have h2:=IntWalk.i64_quo m n h
 rw[IntWalk.i64_left] at h2
 rwa [h2] at h1
theorem rd_remn (ho:o.op = .binOp .rem t x y yt) (hx:ev F x=some (.c (.s (.int .i64 m)))) (hy:ev F y=some (.c (.s (.int .i64 n)))) (h:0≤m∧1≤n):Rd P N E o F H (.c (.s (.int .i64 (m % n)))):=by
 have h1:=rd_rem (P:=P) (N:=N) (E:=E) (H:=H) ho hx hy (by omega)
 rwa [IntWalk.rem_in m n h.1] at h1
theorem al_ef2 {F2:Fm} {H2:List OB} (hg:o.guard=none) (hr:Ef P N E o F H fun F' H'=>F'=F2∧H'=H2) (h:AL P N E ops rest F2 H2 Q):AL P N E ops (o :: rest) F H Q:=
 zf hg hr fun _ _ ⟨h1,h2⟩=>by subst h1;subst h2;exact h
theorem zX9 {id:Nat} {l:List Oper} (ps:List Plan) (hm:P.follows .mixedOrders=true) (hB:okPlans l.toArray ps=true) (h:AM P N E l.toArray l.length ps F H Q):AW P N E (.region id l.toArray true) F H Q:=fun S ρ a w hR _=>
 zH3 E.ok ps hm hB (h S ρ a w.drew hR.drew)
theorem zk:∀j∈([]:List Nat),Ag P N E ops F H j:=fun _ h=>by cases h
theorem zj {j:Nat} {U:List Nat} (h:Ag P N E ops F H j) (hU:∀k∈U,Ag P N E ops F H k):∀k∈j :: U,Ag P N E ops F H k:=fun k hk=>by
 rcases List.mem_cons.1 hk with rfl|hk
 ·exact h
 ·exact hU k hk
theorem zl {c:Operand} {x y:Code} {p:Prop} [Decidable p] (hc:ev F c=some (.c (.s (.bool (decide p))))) (ht:p→AW P N E x F H Q) (hf:¬p→AW P N E y F H Q):AW P N E (.cond c x y) F H Q:=
 zh hc (fun h=>ht (of_decide_eq_true h)) (fun h=>hf (of_decide_eq_false h))
theorem zu {c:Operand} {x y:Code} {p:Prop} [Decidable p] (hc:ev F c=some (.c (.s (.bool (decide p))))) (hp:p) (ht:AW P N E x F H Q):AW P N E (.cond c x y) F H Q:=zl hc (fun _=>ht) (fun h=>absurd hp h)
theorem zt {c:Operand} {x y:Code} {p:Prop} [Decidable p] (hc:ev F c=some (.c (.s (.bool (decide p))))) (hp:¬p) (hf:AW P N E y F H Q):AW P N E (.cond c x y) F H Q:=zl hc (fun h=>absurd h hp) (fun _=>hf)
theorem zI {fn:Func} {nl:Nat} {Qr:AV→List OB→Prop} {us:List AV} (m:List (Option Nat)) (u':(AV→Value)→AV) (H':(AV→Value)→List OB) (hres:ResL P F H fn.results.toList us) (hm:(m.filterMap id).Nodup) (hl:∀i,i < nl→m[i]?=some (some i))
    (hu:∀g,Cvt g m H true (resOf us) (u' g)) (hH:∀g,CvH g m H true m (H' g)) (hq:∀g,Qr (u' g) (H' g)):ARet P fn nl Qr .ret F H:=⟨.inl rfl,us,hres,m,u',H',hm,hl,hu,hH,hq⟩
theorem rd_geq_t {kd:IntKind} (ho:o.op = .binOp .geq t x y yt) (hx:ev F x=some (.c (.s (.int kd m)))) (hy:ev F y=some (.c (.s (.int kd n)))) (h:n≤m):Rd P N E o F H (.c (.s (.bool true))):=by
 have:=zJ10 (P:=P) (N:=N) (E:=E) (H:=H) ho hx hy
 rwa [decide_eq_true h] at this
theorem rd_geq_f {kd:IntKind} (ho:o.op = .binOp .geq t x y yt) (hx:ev F x=some (.c (.s (.int kd m)))) (hy:ev F y=some (.c (.s (.int kd n)))) (h:¬(n≤m)):Rd P N E o F H (.c (.s (.bool false))):=by
 have:=zJ10 (P:=P) (N:=N) (E:=E) (H:=H) ho hx hy
 rwa [decide_eq_false h] at this
theorem zf5 {x:Operand} {v z:AV} {cs cs':List AV} (ho:o.op = .load t x) (ht:ldk P t=some none) (hx:ev F x=some v) (hc:Cells H v cs) (hn:cs=z :: cs'):Rd P N E o F H z:=by subst hn;exact zg5 ho ht hx hc
theorem zk6 {x:Operand} {v:AV} {cs cs':List AV} {k:Nat} (ho:o.op = .load t x) (ht:ldk P t=some (some k)) (hx:ev F x=some v) (hc:Cells H v cs) (hn:cs.take k=cs') (hl:k≤cs.length):Rd P N E o F H (.a cs'):=by subst hn;exact rd_loada ho ht hx hc hl
theorem zt11 {d b:Nat} {z:Value} {vs:List Value} {H2:List OB} (ho:o.op = .alloc t) (hd:o.dst=some d) (hN:d < N) (hz:(P.info? t).bind (·.zero)=some z) (hc:z.cells=vs.toArray) (h1:vs.all Value.oneCell'=true) (hb:H.length=b) (hH:H++[.box (vs.map fun v=>.c (cvOf v))]=H2) :
    Ef P N E o F H fun F' H'=>F'=(d,.p b 0 0) :: F∧H'=H2:=by subst hb;subst hH;exact zA6 ho hd hN hz hc h1
theorem ef_boxn {d b:Nat} {v:AV} {l:List AV} {H2:List OB} (ho:o.op = .box t x) (hd:o.dst=some d) (hN:d < N) (hx:ev F x=some v) (hl:cellsOf v=l) (h1:l.all AV.one=true) (hb:H.length=b) (hH:H++[.box l]=H2) :
    Ef P N E o F H fun F' H'=>F'=(d,.p b 0 0) :: F∧H'=H2:=by subst hb;subst hH;exact ef_box ho hd hN hx hl h1
theorem zY3 {v:AV} {b j k:Nat} {l l':List AV} {H2:List OB} (ho:o.op = .store t x y) (hd:o.dst=none) (hx:ev F x=some (.p b 0 j)) (hH:H[b]?=some (.box l)) (hy:ev F y=some v) (ht:(P.info? t).map (·.size)=some k) (hn:(cellsOf v).length=k)
    (hj:j+k≤l.length) (h1:(cellsOf v).all AV.one=true) (hl:putL l j (cellsOf v)=l') (hH2:H.set b (.box l')=H2):Ef P N E o F H fun F' H'=>F'=F∧H'=H2:=by subst hH2;exact ef_store ho hd hx hH hy ht hn hj h1 hl
theorem zS9 {v:AV} {b k j q sz cap:Nat} {e:TypeId} {rows:List (List CV)} {row us row':List CV} {H2:List OB} (ho:o.op = .store t x y) (hd:o.dst=none) (hx:ev F x=some (.p b k j)) (hH:H[b]?=some (.arr e sz cap rows)) (hk:rows[k]?=some row) (hy:ev F y=some v)
    (hu:uncl (cellsOf v)=some us) (ht:(P.info? t).map (·.size)=some q) (hn:us.length=q) (hj:j+q≤row.length) (h1:us.all CV.one=true) (hl:putL row j us=row') (hH2:H.set b (.arr e sz cap (rows.set k row'))=H2) :
    Ef P N E o F H fun F' H'=>F'=F∧H'=H2:=by subst hH2;exact zn11 ho hd hx hH hk hy hu ht hn hj h1 hl
theorem zA5 {e:TypeId} {sz k d b:Nat} {ps:Array (Nat × Operand)} {rows:List (List CV)} {z:Value} {H2:List OB} (ho:o.op = .buildSlice t k ps) (hd:o.dst=some d) (hN:d < N) (ht:elemSz P t=some (e,sz)) (hp:Parts F 0 ps.toList rows) (hn:rows.length=k)
    (hz:(P.info? e).bind (·.zero)=some z) (hzs:z.cells.size=sz) (hr:rows.all (fun row=>row.length == sz && row.all CV.one)=true) (hle:k*sz≤16777216) (hnm:k≤16777216) (hb:H.length=b) (hH:H++[.arr e sz k rows]=H2) :
    Ef P N E o F H fun F' H'=>F'=(d,.o b 0 k k) :: F∧H'=H2:=by subst hb;subst hH;exact zz6 ho hd hN ht hp hn hz hzs hr hle hnm
theorem ef_maken {e:TypeId} {sz d by_ l c b:Nat} {kx ky:IntKind} {z:Value} {vs:List Value} {zx zy:Int} {H2:List OB} (ho:o.op = .makeSlice t x y) (hd:o.dst=some d) (hN:d < N) (ht:P.underlying t=some (.slice e)) (hi:(P.info? e).map (fun i=>(i.zero,i.size,i.bytes))=some (some z,sz,by_))
    (hx:ev F x=some (.c (.s (.int kx zx)))) (hzx:zx=l) (hy:ev F y=some (.c (.s (.int ky zy)))) (hzy:zy=c) (hlc:l≤c) (hb':by_*c≤281474976710656) (hc:c≤281474976710656) (hvs:z.cells=vs.toArray) (hsz:vs.length=sz) (h1:vs.all Value.oneCell'=true) (hb:H.length=b) (hH:H++[.arr e sz c (List.replicate c (vs.map cvOf))]=H2) :
    Ef P N E o F H fun F' H'=>F'=(d,.o b 0 l c) :: F∧H'=H2:=by subst hb;subst hH;subst hzx;subst hzy;exact ef_make ho hd hN ht hi hx hy hlc hb' hc hvs hsz h1
theorem ef_appn {e:TypeId} {sz d b k cap j:Nat} {s x:Operand} {v:AV} {rows news:List (List CV)} {F2 H2:(AV→Value)→Nat→_} (ho:o.op = .call { callee:=.builtin .append,args:=#[s,x],argTypes:=#[t,t] }) (hd:o.dst=some d) (hN:d < N) (hE:ElemTy P t e sz)
    (hs:ev F s=some (.o b 0 k cap)) (hH:H[b]?=some (.arr e sz cap rows)) (hn:k=rows.length) (hx:ev F x=some v) (hsrc:Src H sz v news) (hj:news.length=j) (hle:k+j≤1073741824)
    (hF2:∀g c2,killF g [b] F=F2 g c2) (hH2:∀g c2,(H.map (killO g [b])).set b (.arr e sz c2 (rows++news))=H2 g c2) (hpin:(∃q,E.H0.length=q∧Nat.ble q b=true)∨E.pin=false:=by first|exact Or.inl ⟨_,by assumption,rfl⟩|exact Or.inr (by assumption)) :
    Ef P N E o F H fun F' H'=>∃g c2,k+j≤c2∧F'=(d,.o b 0 (k+j) c2) :: F2 g c2∧H'=H2 g c2:=by
 subst hj
 have:=ef_app (N:=N) (E:=E) ho hd hN hE hs hH hn hx hsrc hle hpin
 intro S ρ a w hR
 exact zT (fun _ _ ⟨S',ρ',F',H',⟨g,c2,h1,h2,h3⟩,h4⟩=>⟨S',ρ',F',H',⟨g,c2,h1,by rw[h2,hF2],by rw[h3,hH2]⟩,h4⟩) (this S ρ a w hR)
theorem zR7 {fn:FuncId} {caps:Array Operand} {vs:List AV} (ho:o.op = .makeFunc (.func fn) #[] caps) (hx:evL F caps.toList=some vs):Rd P N E o F H (.f (.func fn) vs):=fun S ρ a w hR=>by
 obtain⟨h1,h2⟩:=zT4 hR hx
 refine⟨?_,.f h2⟩
 have:caps.map a.eval=(vs.map (AV.den ρ H)).toArray:=by
  apply Array.toList_inj.1
  rw[Array.toList_map,h1]
 simp[execOp,ho,Instr.makeFunc,AV.den,fnV,AV.denL_eq,this]
theorem rd_eqlb {b c:Bool} (ho:o.op = .binOp .eql t x y yt) (hx:ev F x=some (.c (.s (.bool b)))) (hy:ev F y=some (.c (.s (.bool c)))) (ht:P.underlying t=some .bool):Rd P N E o F H (.c (.s (.bool (b == c)))):=
 zj2 ho hx hy (fun _ _=>rfl) (fun _ _=>rfl) fun w=>by
  simp[eqGuard,binOp,CV.den,Op.equal,Op.maxDepth,run_equalIn_bool' w _ t b c ht]
theorem rd_neqb {b c:Bool} (ho:o.op = .binOp .neq t x y yt) (hx:ev F x=some (.c (.s (.bool b)))) (hy:ev F y=some (.c (.s (.bool c)))) (ht:P.underlying t=some .bool):Rd P N E o F H (.c (.s (.bool (!(b == c))))):=
 zj2 ho hx hy (fun _ _=>rfl) (fun _ _=>rfl) fun w=>by
  simp[eqGuard,binOp,CV.den,Op.equal,Op.maxDepth,run_equalIn_bool' w _ t b c ht]
theorem rd_cap {e:TypeId} {sz b k c j:Nat} (ho:o.op = .call { callee:=.builtin .cap,args:=#[x],argTypes:=#[t] }) (ht:elemSz P t=some (e,sz)) (hx:ev F x=some (.o b k j c)):Rd P N E o F H (.c (.s (.int .i64 c))):=fun S ρ a w hR=>by
 obtain⟨h1,h2⟩:=hR.ev hx
 refine⟨?_,.c (.s _)⟩
 have hu':(underlying t).run P w = .ok (.slice e) w:=by unfold underlying;simp[(zq ht).1]
 simp[execOp,ho,resolve,invoke,builtin,h1,AV.den,CV.den,Builtin.cap_,hu',goInt]
theorem zP7 {ts:Array TypeId} {x y z:Operand} {kd:IntKind} {m n k:Int} (ho:o.op = .call { callee:=.builtin .min,args:=#[x,y,z],argTypes:=ts }) (hx:ev F x=some (.c (.s (.int kd m)))) (hy:ev F y=some (.c (.s (.int kd n)))) (hz:ev F z=some (.c (.s (.int kd k)))):Rd P N E o F H (.c (.s (.int kd (min (min m n) k)))):=fun S ρ a w hR=>by
 have h1:=(hR.ev hx).1
 have h2:=(hR.ev hy).1
 have h3:=(hR.ev hz).1
 simp only[AV.den,CV.den] at h1 h2 h3
 refine⟨?_,.c (.s _)⟩
 have e1:min m n=if n < m then n else m:=by split <;> omega
 have e2:min (min m n) k=if k < min m n then k else min m n:=by split <;> omega
 simp only[execOp,ho,resolve,invoke,builtin,Sem.run_bind,Sem.run_pure,Result.andThen_ok,List.map_toArray,List.map_cons,List.map_nil,h1,h2,h3,AV.den,CV.den,Builtin.min_,List.foldlM_cons,List.foldlM_nil,Builtin.min2]
 rw[e2,e1]
theorem zO7 {ts:Array TypeId} {x y z u:Operand} {kd:IntKind} {m n k j:Int} (ho:o.op = .call { callee:=.builtin .min,args:=#[x,y,z,u],argTypes:=ts }) (hx:ev F x=some (.c (.s (.int kd m)))) (hy:ev F y=some (.c (.s (.int kd n)))) (hz:ev F z=some (.c (.s (.int kd k)))) (hu:ev F u=some (.c (.s (.int kd j)))) :
    Rd P N E o F H (.c (.s (.int kd (min (min (min m n) k) j)))):=fun S ρ a w hR=>by
 have h1:=(hR.ev hx).1
 have h2:=(hR.ev hy).1
 have h3:=(hR.ev hz).1
 have h4:=(hR.ev hu).1
 simp only[AV.den,CV.den] at h1 h2 h3 h4
 refine⟨?_,.c (.s _)⟩
 have e1:min m n=if n < m then n else m:=by split <;> omega
 have e2:min (min m n) k=if k < min m n then k else min m n:=by split <;> omega
 have e3:min (min (min m n) k) j=if j < min (min m n) k then j else min (min m n) k:=by split <;> omega
 simp only[execOp,ho,resolve,invoke,builtin,Sem.run_bind,Sem.run_pure,Result.andThen_ok,List.map_toArray,List.map_cons,List.map_nil,h1,h2,h3,h4,AV.den,CV.den,Builtin.min_,List.foldlM_cons,List.foldlM_nil,Builtin.min2]
 rw[e3,e2,e1]
theorem zQ7 {ts:Array TypeId} {x y z:Operand} {kd:IntKind} {m n k:Int} (ho:o.op = .call { callee:=.builtin .max,args:=#[x,y,z],argTypes:=ts }) (hx:ev F x=some (.c (.s (.int kd m)))) (hy:ev F y=some (.c (.s (.int kd n)))) (hz:ev F z=some (.c (.s (.int kd k)))):Rd P N E o F H (.c (.s (.int kd (max (max m n) k)))):=fun S ρ a w hR=>by
 have h1:=(hR.ev hx).1
 have h2:=(hR.ev hy).1
 have h3:=(hR.ev hz).1
 simp only[AV.den,CV.den] at h1 h2 h3
 refine⟨?_,.c (.s _)⟩
 have e1:max m n=if m < n then n else m:=by split <;> omega
 have e2:max (max m n) k=if max m n < k then k else max m n:=by split <;> omega
 simp only[execOp,ho,resolve,invoke,builtin,Sem.run_bind,Sem.run_pure,Result.andThen_ok,List.map_toArray,List.map_cons,List.map_nil,h1,h2,h3,AV.den,CV.den,Builtin.max_,List.foldlM_cons,List.foldlM_nil,Builtin.max2]
 rw[e2,e1]
def bplaces (P:Program) (t:TypeId):Option (List (Nat × Nat)):=
 match P.underlying t with
 | some (.struct fs)=>fs.toList.mapM fun f=>(P.info? f.type).map fun i=>(f.offset,i.size)
 | _=>none
inductive BParts (F:Fm) (pl:List (Nat × Nat)):List (Nat × Operand)→List AV→List AV→Prop where
 | nil {l:List AV}:BParts F pl [] l l
 | cons {i off k:Nat} {x:Operand} {v:AV} {ps:List (Nat × Operand)} {l l1 l2:List AV} (h:ev F x=some v) (hp:pl[i]?=some (off,k)) (hk:(cellsOf v).length=k) (hl:off+k≤l.length) (h1:(cellsOf v).all AV.one=true) (he:putL l off (cellsOf v)=l1) (ht:BParts F pl ps l1 l2):BParts F pl ((i,x) :: ps) l l2
theorem zd5 {l:List AV} {ρ:List (Option Nat)} {off:Nat} {xs:List AV} (h:off+xs.length≤l.length):setAll (l.map (AV.den ρ H)).toArray off (xs.map (AV.den ρ H))=((putL l off xs).map (AV.den ρ H)).toArray:=by
 refine Array.ext_getElem? fun k=>?_
 rw[zU _ _ _ _ (by simpa using h)]
 simp only[List.length_map,List.getElem?_map,List.getElem?_toArray]
 rw[zU2 h]
 split <;> rfl
theorem zq8 {S:Nat→Prop} {ρ:List (Option Nat)} {a:Act} {w:World} {pl:List (Nat × Nat)} {ps:List (Nat × Operand)} {l l':List AV} (hR:R N E S ρ F H a w) (h:BParts F pl ps l l') (hw:∀x∈l,WF w S ρ H x) :
    Instr.fill (pl.toArray[·]?) (l.map (AV.den ρ H)).toArray (ps.map fun x=>(x.1,a.eval x.2))=some (l'.map (AV.den ρ H)).toArray∧∀x∈l',WF w S ρ H x:=by
 induction h with
 | nil=>exact⟨rfl,hw⟩
 | @cons i off k x v ps l l1 l2 h hp hk hl h1 he ht ih=>
  subst he
  obtain⟨g1,g2⟩:=hR.ev h
  obtain⟨e1,e2⟩:=za1 g2 h1
  obtain⟨q1,q2⟩:=ih (fun x hx=>by
   rcases zR3 hx with hx|hx
   ·exact(e2 x hx).1
   ·exact hw x hx)
  refine⟨?_,q2⟩
  simp only[List.map_cons,Instr.fill,List.getElem?_toArray,hp,g1,e1,List.size_toArray,List.length_map,hk,ne_eq,not_true_eq_false,decide_false,Bool.false_or]
  rw[if_neg (by simp;omega),zs3]
  simp only
  rw[zd5 (by omega)]
  simp only[List.getElem?_toArray] at q1
  exact q1
theorem zo5 {fs:List Field} {pl:List (Nat × Nat)} {w:World} (h:fs.mapM (fun f=>(P.info? f.type).map fun i=>(f.offset,i.size))=some pl):(fs.mapM (m:=Sem) fun f=>do pure (f.offset,←sizeOf f.type)).run P w = .ok pl w:=by
 induction fs generalizing pl with
 | nil=>simp at h;subst h;rfl
 | cons f fs ih=>
  rw[List.mapM_cons] at h
  cases hi:P.info? f.type with
  | none=>rw[hi] at h;cases h
  | some i=>
   rw[hi] at h
   cases hr:fs.mapM (fun f=>(P.info? f.type).map fun i=>(f.offset,i.size)) with
   | none=>simp[hr] at h
   | some pl'=>
    simp[hr] at h
    subst h
    have hz:(sizeOf f.type).run P w = .ok i.size w:=by simp[sizeOf,typeInfo,hi]
    rw[List.mapM_cons]
    simp only[Sem.run_bind,hz,Result.andThen_ok,Sem.run_pure,ih hr]
theorem rd_build {ps:Array (Nat × Operand)} {z:Value} {vs:List Value} {pl:List (Nat × Nat)} {l':List AV} (ho:o.op = .build t ps) (hz:(P.info? t).bind (·.zero)=some z) (hc:z.cells=vs.toArray) (hpl:bplaces P t=some pl)
    (hb:BParts F pl ps.toList (vs.map fun v=>.c (cvOf v)) l'):Rd P N E o F H (.a l'):=fun S ρ a w hR=>by
 obtain⟨h1,h2⟩:=zq8 hR hb (fun x hx=>by obtain⟨v,_,rfl⟩:=List.mem_map.1 hx;exact .c (zO2 _ _ _))
 refine⟨?_,.a h2⟩
 unfold bplaces at hpl
 cases hu:P.underlying t with
 | none=>rw[hu] at hpl;cases hpl
 | some dsc=>
  rw[hu] at hpl
  cases dsc <;> simp only[reduceCtorEq] at hpl
  rename_i fs
  have hu':(underlying t).run P w = .ok (.struct fs) w:=by unfold underlying;simp[hu]
  have hzr:(zeroValue t).run P w = .ok z w:=by
   unfold zeroValue typeInfo
   cases hi:P.info? t with
   | none=>rw[hi] at hz;cases hz
   | some i=>rw[hi] at hz;simp only[Option.bind_some] at hz;simp[hi,hz]
  have hpm:(ps.map fun x=>(x.1,a.eval x.2)).toList=ps.toList.map fun x=>(x.1,a.eval x.2):=by simp
  have hvs:z.cells=((vs.map fun v=>AV.c (cvOf v)).map (AV.den ρ H)).toArray:=by rw[hc];simp[Function.comp_def,AV.den,zY1]
  have hmp:(fs.mapM fun f=>do pure (f.offset,←sizeOf f.type):Sem (Array (Nat × Nat))).run P w = .ok pl.toArray w:=by
   rw[Array.mapM_eq_mapM_toList,Sem.run_map,zo5 hpl];rfl
  simp only[execOp,ho,Instr.build,Sem.run_bind,hzr,Result.andThen_ok,hu']
  rw[hmp]
  simp only[Result.andThen_ok,hpm,hvs,h1,Sem.run_pure,AV.den,AV.denL_eq]
theorem zc4 {c:Code} {K:Fm→List OB→Prop} (J:Fm→List OB→Prop) (h:AW P N E c F H (ASeq (fun F' H'=>Wk N E F' H' J) Q)) (hJ:∀F H,J F H→K F H) (hK:∀F H,Wk N E F H K→K F H):AW P N E c F H (ASeq K Q):=
 aw_mono h fun e F H hh=>by
  cases e
  case normal=>
   refine hK F H (fun S ρ a w hR=>?_)
   obtain⟨S',ρ',F',H',h1,h2⟩:=hh S ρ a w hR
   exact⟨S',ρ',F',H',hJ _ _ h1,h2⟩
  all_goals exact hh
theorem zb6 {c:Code}:∀F H,Wk N E F H (fun F H=>AW P N E c F H Q)→AW P N E c F H Q:=fun _ _ h=>zB5 h fun _ _ h=>h
theorem zP2 {fn:Func} {nl q:Nat} {Qr:AV→List OB→Prop} {z:AV} {v:CV} (m:List (Option Nat)) (H':List OB) (hr:fn.results=#[.tmp q]) (h:F.lookup q=some z) (hz:z = .c v) (hm:(m.filterMap id).Nodup) (hl:∀i,i < nl→m[i]?=some (some i)) (hH:∀g,CvH g m H true m H') (hq:Qr (.c v) H'):ARet P fn nl Qr .ret F H:=by
 subst hz
 exact zI m (fun _=>.c v) (fun _=>H') (by rw[hr];exact .tmp h .nil) hm hl (fun _=>.c rfl) hH (fun _=>hq)
theorem zd4 {fn:Func} {nl q r:Nat} {Qr:AV→List OB→Prop} {z z2:AV} {v v2:CV} (m:List (Option Nat)) (H':List OB) (hr:fn.results=#[.tmp q,.tmp r]) (h:F.lookup q=some z) (hz:z = .c v) (h2:F.lookup r=some z2) (hz2:z2 = .c v2) (hm:(m.filterMap id).Nodup) (hl:∀i,i < nl→m[i]?=some (some i)) (hH:∀g,CvH g m H true m H') (hq:Qr (.t [.c v,.c v2]) H'):ARet P fn nl Qr .ret F H:=by
 subst hz;subst hz2
 exact zI m (fun _=>.t [.c v,.c v2]) (fun _=>H') (by rw[hr];exact .tmp h (.tmp h2 .nil)) hm hl (fun _=>.tL (.cons (.c rfl) (.cons (.c rfl) .nil))) hH (fun _=>hq)
theorem zn1 {fn:Func} {nl q k:Nat} {ty:TypeId} {Qr:AV→List OB→Prop} {v:AV} {cs cs' cs'':List AV} (m:List (Option Nat)) (H':List OB) (hr:fn.results=#[.cell q ty]) (hk:ldk P ty=some (some k)) (h:F.lookup q=some v) (hc:Cells H v cs) (hn:k≤cs.length) (he:cs.take k=cs') (hm:(m.filterMap id).Nodup) (hl:∀i,i < nl→m[i]?=some (some i))
    (hcv:∀g,CvL g m H true cs' cs'') (hH:∀g,CvH g m H true m H') (hq:Qr (.a cs'') H'):ARet P fn nl Qr .ret F H:=
 zI (us:=[.a cs']) m (fun _=>.a cs'') (fun _=>H') (by rw[hr];exact .cella h hk hc hn he .nil) hm hl (fun g=>.aL (hcv g)) hH (fun _=>hq)
theorem zT5 {fn:Func} {nl q b k k' c b':Nat} {Qr:AV→List OB→Prop} {z:AV} (m:List (Option Nat)) (H':(AV→Value)→List OB) (hr:fn.results=#[.tmp q]) (h:F.lookup q=some z) (hz:z = .o b 0 k c) (hk:k=k') (hb:m[b']?=some (some b)) (hm:(m.filterMap id).Nodup) (hl:∀i,i < nl→m[i]?=some (some i)) (hH:∀g,CvH g m H true m (H' g)) (hq:∀g,Qr (.o b' 0 k' c) (H' g)):ARet P fn nl Qr .ret F H:=by
 subst hz
 exact zI m (fun _=>.o b' 0 k' c) H' (by rw[hr];exact .tmp h .nil) hm hl (fun _=>.o hb hk) hH hq
theorem zQ6 {g:AV→Value} {m:List Nat} {Hr:List OB} {h:Nat}:∀(b:Nat) (l:List OB),(∀i∈m,i < b)→updH g [] m Hr h b l=l
 | _,[],_=>rfl
 | b,x :: l,hm=>by
  have:posOf b m=none:=by
   cases hp:posOf b m with
   | none=>rfl
   | some i=>have:=hm b (List.mem_of_getElem? (zt1 hp));omega
  rw[updH,this,zQ6 (b+1) l (fun i hi=>by have:=hm i hi;omega)];simp[zn7]
theorem zy1 {f:FuncId} {fx:Operand} {args:Array Operand} {tys:Array TypeId} {d:Nat} {vs all:List AV} {us:(AV→Value)→List AV} {l0:List AV} {l0':(AV→Value)→List AV} {T:List OB} {Qc:(AV→Value)→AV→List OB→Prop} (fz:Bool)
    (hc:∀g,ACalls P f (us g) [.box (l0' g)] (Qc g)) (ho:o.op = .call { callee:=.value fx,args:=args,argTypes:=tys }) (hfx:Callee' F fx f vs all) (hd:o.dst=some d) (hN:d < N) (hf:okFn P f=true) (hargs:evL F args.toList=some vs) (hH0:H = .box l0 :: T)
    (hcv:∀g,CvL g [some 0] H fz all (us g)) (hl0:∀g,CvL g [some 0] H fz l0 (l0' g)) (hfl:fz=true→∀g u Hr,Qc g u Hr→FlatA (Known F H) u∧∀o∈Hr,FlatO (Known F H) o) :
    Ef P N E o F H fun F' H'=>∃g u o0 Hr,Qc g u (o0 :: Hr)∧F'=(d,u.emb [0] H.length) :: F∧H'=o0.emb [0] H.length :: (T++Hr.map (OB.emb [0] H.length)):=fun S ρ a w hR=>by
 have hlent:lentArr H [0] = []:=by rw[hH0];rfl
 refine zT (fun a' w' hh=>?_) (zP1 [0] (fun g=>[.box (l0' g)]) fz hc ho hfx hd hN hf hargs (fun g=>hcv g) (by simp) (fun g=>.box (by rw[hH0];rfl) (hl0 g) .nil) hfl (.inl ⟨_,rfl,by rw[hlent];rfl⟩) S ρ a w hR)
 obtain⟨S',ρ',F',H',⟨g,u,Hr,h0,h1,h2,h3⟩,h4⟩:=hh
 rw[hlent,zS] at h2
 rw[hlent] at h3
 have hne:Hr≠[]:=by
  intro he
  rw[he] at h0;simp at h0
 obtain⟨o0,Hr',rfl⟩:=List.exists_cons_of_ne_nil hne
 refine⟨S',ρ',F',H',⟨g,u,o0,Hr',h1,h2, ?_⟩,h4⟩
 rw[h3,hH0]
 simp only[updH,posOf,beq_self_eq_true,if_true,List.getD_cons_zero,List.length_cons,List.length_nil,List.drop_succ_cons,List.drop_zero,List.cons_append]
 rw[zQ6 _ _ (by simp)]
end
end Go.Proofs.YtophoepbedlhjaaGreatDoor
