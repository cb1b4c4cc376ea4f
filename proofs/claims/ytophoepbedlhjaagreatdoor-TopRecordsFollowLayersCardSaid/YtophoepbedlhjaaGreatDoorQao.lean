/- Walks of regions in one step: the rules, and the tactics. -/
import Derived.Test.YtophoepbedlhjaaGreatDoorQan
set_option linter.unusedSimpArgs false
set_option linter.unusedVariables false
namespace Go.Proofs.YtophoepbedlhjaaGreatDoor
open Go Go.RowKit
set_option maxRecDepth 100000
section
variable {N:Nat} {E:Env} {F:Fm} {H:List OB} {o:Oper} {Q:Exit→Fm→List OB→Prop} {ops:Array Oper} {rest:List Oper}
theorem zk2 {v:AV} (h:rdV o.op F H=some v):Rd Tryz.prog N E o F H v:=by
 unfold rdV at h
 split at h
 ·rename_i x ho;exact zd3 ho h
 ·rename_i x ho;exact zN10 ho h
 ·rename_i c x y ho
  split at h
  ·rename_i hc;exact zH10 ho hc h
  ·rename_i hc;exact zI10 ho hc h
  ·cases h
 ·rename_i x i ho
  split at h
  ·rename_i l hl;exact zF9 ho hl h
  ·cases h
 ·rename_i t x ho
  split at h
  ·rename_i hk
   split at h
   ·rename_i b j hx
    split at h
    ·rename_i l hl
     have hj:=(List.getElem?_eq_some_iff.1 h).1
     refine zg5 (cs:=l.drop (j+1)) ho (KK hk) hx ?_
     have:=Cells.box (j:=j) hl
     rwa [List.drop_eq_getElem_cons hj,(List.getElem?_eq_some_iff.1 h).2] at this
    ·rename_i tt l hl
     have hj:=(List.getElem?_eq_some_iff.1 h).1
     refine zg5 (cs:=l.drop (j+1)) ho (KK hk) hx ?_
     have:=Cells.boxt (j:=j) hl
     rwa [List.drop_eq_getElem_cons hj,(List.getElem?_eq_some_iff.1 h).2] at this
    ·cases h
   ·rename_i w k sz row j hx
    split at h
    ·rename_i u hu
     injection h with h
     subst h
     have hj:=(List.getElem?_eq_some_iff.1 hu).1
     refine zg5 (cs:=(row.drop (j+1)).map .c) ho (KK hk) hx ?_
     have:=Cells.q (H:=H) (v:=w) (k:=k) (sz:=sz) (j:=j) (row:=row)
     rwa [List.drop_eq_getElem_cons hj,(List.getElem?_eq_some_iff.1 hu).2] at this
    ·cases h
   ·cases h
  ·cases h
 ·rename_i t x f ho
  split at h
  ·rename_i l hl
   split at h
   ·rename_i off hoff;exact rd_fx ho (KF hl hoff) h
   ·cases h
  ·cases h
 ·rename_i x ho
  split at h
  ·rename_i b k j hx;injection h with h;subst h;exact zP8 ho hx
  ·rename_i w k sz row j hx;injection h with h;subst h;exact zj6 ho hx
  ·rename_i w row hx;injection h with h;subst h;exact rd_nilcp ho hx
  ·rename_i ad hx;injection h with h;subst h;exact rd_nilr ho hx
  ·cases h
 ·rename_i ut x ho
  split at h
  ·rename_i b hx;injection h with h;subst h;exact rd_not ho hx
  ·cases h
 ·rename_i x t ho
  split at h
  ·rename_i q hq
   split at h
   ·rename_i n hn;injection h with h;subst h;exact rd_lx ho (KE (q:=(q.1,q.2)) hq) hn
   ·cases h
  ·cases h
 ·rename_i x t ho
  split at h
  ·rename_i q hq
   split at h
   ·rename_i b k j c hx;injection h with h;subst h;exact rd_cap ho (KE (q:=(q.1,q.2)) hq) hx
   ·cases h
  ·cases h
 ·cases h
def rdT (N:Nat) (ops:Array Oper) (o:Oper) (F:Fm) (H:List OB):Option (Nat × AV):=
 match o.dst with
 | none=>none
 | some d=>match Nat.blt d N with
  | false=>none
  | true=>match o.guard with
   | none=>(match rdV o.op F H with|some v=>some (d,v)|none=>none)
   | some _=>match gd ops o F with
    | some false=>some (d,un)
    | some true=>(match rdV o.op F H with|some v=>some (d,v)|none=>none)
    | none=>none
theorem zR8 {d:Nat} {v:AV} (h:rdT N ops o F H=some (d,v)):o.dst=some d∧d < N∧((v=un∧gd ops o F=some false)∨(gok ops o F=true∧rdV o.op F H=some v)):=by
 unfold rdT at h
 cases hd:o.dst with
 | none=>rw[hd] at h;cases h
 | some d'=>
  rw[hd] at h
  dsimp only at h
  cases hb:Nat.blt d' N with
  | false=>rw[hb] at h;cases h
  | true=>
   rw[hb] at h
   dsimp only at h
   have hN:d' < N:=by simpa [Nat.blt_eq] using hb
   have fin:∀{r:Option AV},(match r with|some v=>some (d',v)|none=>none)=some (d,v)→d'=d∧r=some v:=fun {r} he=>by
    cases r with
    | none=>cases he
    | some w=>obtain⟨rfl,rfl⟩:=Prod.mk.inj (Option.some.inj he);exact⟨rfl,rfl⟩
   cases hg:o.guard with
   | none=>
    rw[hg] at h
    dsimp only at h
    obtain⟨rfl,h2⟩:=fin h
    exact⟨rfl,hN,.inr ⟨by unfold gok;rw[hg],h2⟩⟩
   | some g=>
    rw[hg] at h
    dsimp only at h
    cases hc:gd ops o F with
    | none=>rw[hc] at h;cases h
    | some c=>
     rw[hc] at h
     cases c with
     | false=>obtain⟨rfl,rfl⟩:=Prod.mk.inj (Option.some.inj h);exact⟨rfl,hN,.inl ⟨rfl,rfl⟩⟩
     | true=>
      dsimp only at h
      obtain⟨rfl,h2⟩:=fin h
      exact⟨rfl,hN,.inr ⟨by unfold gok;rw[hg];dsimp only;rw[hc],h2⟩⟩
theorem M3 {d:Nat} {v:AV} (h:rdT N ops o F H=some (d,v)) (k:AL Tryz.prog N E ops rest ((d,v) :: F) H Q):AL Tryz.prog N E ops (o :: rest) F H Q:=by
 obtain⟨h1,h2,⟨rfl,h3⟩|⟨h3,h4⟩⟩:=zR8 h
 ·exact G2 h3 h1 h2 k
 ·exact zA (zk2 h4) k h3 h1 h2
theorem M4 {i d:Nat} {v:AV} {L:List (Nat × Option (List Nat))} (h:rdT N ops o F H=some (d,v)) (k:AT Tryz.prog N E ops L ((d,v) :: F) H Q):AT1 Tryz.prog N E ops o i none L F H Q:=by
 obtain⟨h1,h2,⟨rfl,h3⟩|⟨h3,h4⟩⟩:=zR8 h
 ·exact fun ho=>G4 ho h3 h1 h2 k
 ·exact zw (zk2 h4) k h3 h1 h2
theorem agT {j d:Nat} {v:AV} (ho:ops[j]?=some o) (h:rdT N ops o F H=some (d,v)) (hx:F.lookup d=some v) (hg:o.guard=none):Ag Tryz.prog N E ops F H j:=by
 obtain⟨h1,h2,⟨rfl,h3⟩|⟨h3,h4⟩⟩:=zR8 h
 ·unfold gd at h3;rw[hg] at h3;cases h3
 ·exact zF ho hg h1 (zk2 h4) hx
def partsC (F:Fm):Nat→List (Nat × Operand)→Option (List (List CV))
 | _,[]=>some []
 | i,(j,x) :: ps=>match Nat.beq j i with
  | false=>none
  | true=>match ev F x with
   | none=>none
   | some v=>match uncl (cellsOf v) with
    | none=>none
    | some us=>match partsC F (i+1) ps with
     | none=>none
     | some rows=>some (us :: rows)
theorem zk5 {F:Fm}:∀{ps:List (Nat × Operand)} {i:Nat} {rows:List (List CV)},partsC F i ps=some rows→Parts F i ps rows
 | [],i,rows,h=>by injection h with h;subst h;exact .nil _
 | (j,x) :: ps,i,rows,h=>by
  unfold partsC at h
  split at h
  ·cases h
  ·rename_i hj
   obtain rfl:j=i:=Nat.eq_of_beq_eq_true hj
   split at h
   ·cases h
   ·rename_i v hv
    split at h
    ·cases h
    ·rename_i us hus
     split at h
     ·cases h
     ·rename_i rs hrs
      injection h with h
      subst h
      exact .cons hv hus (zk5 hrs)
def bpartsC (F:Fm) (pl:List (Nat × Nat)):List (Nat × Operand)→List AV→Option (List AV)
 | [],l=>some l
 | (i,x) :: ps,l=>match ev F x with
  | none=>none
  | some v=>match pl[i]? with
   | none=>none
   | some (off,k)=>match Nat.beq (cellsOf v).length k && Nat.ble (off+k) l.length && (cellsOf v).all AV.one with
    | false=>none
    | true=>bpartsC F pl ps (putL l off (cellsOf v))
theorem zR5 {F:Fm} {pl:List (Nat × Nat)}:∀{ps:List (Nat × Operand)} {l l':List AV},bpartsC F pl ps l=some l'→BParts F pl ps l l'
 | [],l,l',h=>by injection h with h;subst h;exact .nil
 | (i,x) :: ps,l,l',h=>by
  unfold bpartsC at h
  split at h
  ·cases h
  ·rename_i v hv
   split at h
   ·cases h
   ·rename_i off k hp
    split at h
    ·cases h
    ·rename_i hc
     simp only[Bool.and_eq_true,Nat.ble_eq] at hc
     exact .cons hv hp (Nat.eq_of_beq_eq_true hc.1.1) hc.1.2 hc.2 rfl (zR5 h)
section
variable {t e yt:TypeId} {x y:Operand} {sz:Nat}
theorem YL {v z:AV} {cs cs':List AV} (ho:o.op = .load t x:=by exact rfl) (ht:bK.get t=some none:=by exact rfl) (hx:ev F x=some v:=by exact rfl) (hc:Cells H v cs:=by first|exact CB rfl|exact CQ|exact CA rfl (by first|assumption|(rw[Nat.zero_add];assumption))|exact Cells.boxt rfl) (hn:cs=z :: cs':=by(try simp only[nm,putL,Nat.reduceAdd,cellsOf,cvOf]) <;> rfl):Rd Tryz.prog N E o F H z:=zf5 ho (KK ht) hx hc hn
theorem YK {v:AV} {cs cs':List AV} {k:Nat} (ho:o.op = .load t x:=by exact rfl) (ht:bK.get t=some (some k):=by exact rfl) (hx:ev F x=some v:=by exact rfl) (hc:Cells H v cs:=by first|exact CB rfl|exact CQ|exact CA rfl (by first|assumption|(rw[Nat.zero_add];assumption))|exact Cells.boxt rfl) (hn:cs.take k=cs':=by(try simp only[nm,putL,Nat.reduceAdd,cellsOf,cvOf]) <;> rfl) (hl:k≤cs.length:=by simp):Rd Tryz.prog N E o F H (.a cs'):=zk6 ho (KK ht) hx hc hn hl
theorem YI {ix:Operand} {b k n c i cap:Nat} {kd:IntKind} {z:Int} {rows:List (List CV)} (ho:o.op = .indexAddr t x ix:=by exact rfl) (ht:bE.get t=some (e,sz):=by exact rfl) (hx:ev F x=some (.o b k n c):=by exact rfl) (hH:H[b]?=some (.arr e sz cap rows):=by exact rfl) (hix:ev F ix=some (.c (.s (.int kd z))):=by exact rfl) (hz:z=i:=by first|rfl|omega) (hi:i < n:=by omega):Rd Tryz.prog N E o F H (.p b (k+i) 0):=zP4 ho (KE ht) hx hH hix hz hi
theorem YIj {ix:Operand} {b k n c i j cap:Nat} {kd:IntKind} {z:Int} {rows:List (List CV)} (ho:o.op = .indexAddr t x ix:=by exact rfl) (ht:bE.get t=some (e,sz):=by exact rfl) (hx:ev F x=some (.o b k n c):=by exact rfl) (hH:H[b]?=some (.arr e sz cap rows):=by exact rfl) (hix:ev F ix=some (.c (.s (.int kd z))):=by exact rfl) (hz:z=i:=by first|rfl|omega) (hi:i < n:=by omega) (hj:k+i=j:=by first|rfl|omega):Rd Tryz.prog N E o F H (.p b j 0):=zc7 ho (KE ht) hx hH hix hz hi hj
theorem YJ {ix:Operand} {i:Nat} {kd:IntKind} {z:Int} {v:Value} {rows:List (List CV)} {row:List CV} (ho:o.op = .indexAddr t x ix:=by exact rfl) (ht:bE.get t=some (e,sz):=by exact rfl) (hx:ev F x=some (.c (.r v rows)):=by exact rfl) (hix:ev F ix=some (.c (.s (.int kd z))):=by exact rfl) (hz:z=i:=by first|rfl|omega) (hi:rows[i]?=some row:=by assumption) (hl:row.length=sz:=by exact rfl):Rd Tryz.prog N E o F H (.q v i sz row 0):=zh3 ho (KE ht) hx hix hz hi hl
theorem Ysli {lo hi:Option Operand} {b k n c l h cap:Nat} {rows:List (List CV)} (ho:o.op = .slice t x lo hi none:=by exact rfl) (ht:bE.get t=some (e,sz):=by exact rfl) (hx:ev F x=some (.o b k n c):=by exact rfl) (hH:H[b]?=some (.arr e sz cap rows):=by exact rfl) (hlo:(lo=none∧l=0)∨∃y kd z,lo=some y∧ev F y=some (.c (.s (.int kd z)))∧z=l:=by first|exact .inl ⟨rfl,rfl⟩|exact .inr ⟨_,_,_,rfl,rfl,by first|rfl|omega⟩) (hhi:(hi=none∧h=n)∨∃y kd z,hi=some y∧ev F y=some (.c (.s (.int kd z)))∧z=h:=by first|exact .inl ⟨rfl,rfl⟩|exact .inr ⟨_,_,_,rfl,rfl,by first|rfl|omega⟩) (hlh:l≤h:=by omega) (hhc:h≤n:=by omega) (hlc:l < c:=by omega):Rd Tryz.prog N E o F H (.o b (k+l) (h - l) (c - l)):=zM3 ho (KE ht) hx hH hlo hhi hlh hhc hlc
theorem Ybld {ps:Array (Nat × Operand)} {z:Value} {q:Nat × Nat} {vs:List Value} {pl:List (Nat × Nat)} {l1 l':List AV} (ho:o.op = .build t ps:=by exact rfl) (hz:bI.get t=some (z,q):=by exact rfl) (hpl:bB.get t=some pl:=by exact rfl) (hc:z.cells=vs.toArray:=by exact rfl) (hb:bpartsC F pl ps.toList (vs.map fun v=>.c (cvOf v))=some l1:=by exact rfl) (hl:l1=l':=by(try simp only[nm,putL,Nat.reduceAdd,cellsOf,cvOf]) <;> rfl):Rd Tryz.prog N E o F H (.a l'):=by subst hl;exact rd_build ho (KZ hz) hc (KB hpl) (zR5 hb)
theorem Yneg {ut:TypeId} {m r:Int} (ho:o.op = .unOp .neg ut x:=by exact rfl) (hx:ev F x=some (.c (.s (.int .i64 m))):=by exact rfl) (hr:wrap64 (-m)=r:=by first|exact Zwr (by omega)|exact rfl):Rd Tryz.prog N E o F H (.c (.s (.int .i64 r))):=by subst hr;exact rd_neg ho hx
theorem Ymkf {fn:FuncId} {caps:Array Operand} {vs:List AV} (ho:o.op = .makeFunc (.func fn) #[] caps:=by exact rfl) (hx:evL F caps.toList=some vs:=by exact rfl):Rd Tryz.prog N E o F H (.f (.func fn) vs):=zR7 ho hx
theorem Ynil {v:Value} {rows:List (List CV)} (ho:o.op = .binOp .eql t x (.const (.slice none 0 0)) yt:=by exact rfl) (ht:bE.get t=some (e,sz):=by exact rfl) (hx:ev F x=some (.c (.r v rows)):=by exact rfl):Rd Tryz.prog N E o F H (.c (.s (.bool (rnil v)))):=zM10 ho hx (KE ht)
theorem Yeqb {b c:Bool} (ho:o.op = .binOp .eql 4 x y yt:=by exact rfl) (hx:ev F x=some (.c (.s (.bool b))):=by exact rfl) (hy:ev F y=some (.c (.s (.bool c))):=by exact rfl):Rd Tryz.prog N E o F H (.c (.s (.bool (b == c)))):=rd_eqlb ho hx hy Tryz.underlying4
theorem Yneb {b c:Bool} (ho:o.op = .binOp .neq 4 x y yt:=by exact rfl) (hx:ev F x=some (.c (.s (.bool b))):=by exact rfl) (hy:ev F y=some (.c (.s (.bool c))):=by exact rfl):Rd Tryz.prog N E o F H (.c (.s (.bool (!(b == c))))):=rd_neqb ho hx hy Tryz.underlying4
theorem Yall {d b:Nat} {z:Value} {q:Nat × Nat} {vs:List Value} {H2:List OB} (ho:o.op = .alloc t:=by exact rfl) (hz:bI.get t=some (z,q):=by exact rfl) (hd:o.dst=some d:=by exact rfl) (hN:d < N:=by decide) (hc:z.cells=vs.toArray:=by exact rfl) (h1:vs.all Value.oneCell'=true:=by exact rfl) (hb:H.length=b:=by(try simp only[nm,putL,Nat.reduceAdd,cellsOf,cvOf]) <;> rfl) (hH:H++[.box (vs.map fun v=>.c (cvOf v))]=H2:=by(try simp only[nm,putL,Nat.reduceAdd,cellsOf,cvOf]) <;> rfl):Ef Tryz.prog N E o F H fun F' H'=>F'=(d,.p b 0 0) :: F∧H'=H2:=zt11 ho hd hN (KZ hz) hc h1 hb hH
theorem Ysto {v:AV} {b j k:Nat} {z:Value} {by_:Nat} {l l':List AV} {H2:List OB} (ho:o.op = .store t x y:=by exact rfl) (ht:bI.get t=some (z,k,by_):=by exact rfl) (hd:o.dst=none:=by exact rfl) (hx:ev F x=some (.p b 0 j):=by exact rfl) (hH:H[b]?=some (.box l):=by exact rfl) (hy:ev F y=some v:=by exact rfl) (hn:(cellsOf v).length=k:=by exact rfl) (hj:j+k≤l.length:=by simp) (h1:(cellsOf v).all AV.one=true:=by exact rfl) (hl:putL l j (cellsOf v)=l':=by(try simp only[nm,putL,Nat.reduceAdd,cellsOf,cvOf]) <;> rfl) (hH2:H.set b (.box l')=H2:=by(try simp only[nm,putL,Nat.reduceAdd,cellsOf,cvOf]) <;> rfl):Ef Tryz.prog N E o F H fun F' H'=>F'=F∧H'=H2:=zY3 ho hd hx hH hy (KS ht) hn hj h1 hl hH2
theorem Ystr {v:AV} {b k j q cap:Nat} {z:Value} {by_:Nat} {rows:List (List CV)} {row us row':List CV} {H2:List OB} (ho:o.op = .store t x y:=by exact rfl) (ht:bI.get t=some (z,q,by_):=by exact rfl) (hd:o.dst=none:=by exact rfl) (hx:ev F x=some (.p b k j):=by exact rfl) (hH:H[b]?=some (.arr e sz cap rows):=by exact rfl) (hk:rows[k]?=some row:=by first|assumption|(rw[Nat.zero_add];assumption)) (hy:ev F y=some v:=by exact rfl) (hu:uncl (cellsOf v)=some us:=by exact rfl) (hn:us.length=q:=by exact rfl) (hj:j+q≤row.length:=by simp) (h1:us.all CV.one=true:=by exact rfl) (hl:putL row j us=row':=by(try simp only[nm,putL,Nat.reduceAdd,cellsOf,cvOf]) <;> rfl) (hH2:H.set b (.arr e sz cap (rows.set k row'))=H2:=by exact rfl):Ef Tryz.prog N E o F H fun F' H'=>F'=F∧H'=H2:=zS9 ho hd hx hH hk hy hu (KS ht) hn hj h1 hl hH2
theorem Ybsl {k d b:Nat} {ps:Array (Nat × Operand)} {rows:List (List CV)} {z:Value} {q:Nat × Nat} {H2:List OB} (ho:o.op = .buildSlice t k ps:=by exact rfl) (ht:bE.get t=some (e,sz):=by exact rfl) (hz:bI.get e=some (z,q):=by exact rfl) (hp:partsC F 0 ps.toList=some rows:=by exact rfl) (hd:o.dst=some d:=by exact rfl) (hN:d < N:=by decide) (hn:rows.length=k:=by exact rfl) (hzs:z.cells.size=sz:=by exact rfl) (hr:rows.all (fun row=>row.length == sz && row.all CV.one)=true:=by exact rfl) (hle:k*sz≤16777216:=by simp) (hnm:k≤16777216:=by simp) (hb:H.length=b:=by(try simp only[nm,putL,Nat.reduceAdd,cellsOf,cvOf]) <;> rfl) (hH:H++[.arr e sz k rows]=H2:=by(try simp only[nm,putL,Nat.reduceAdd,cellsOf,cvOf]) <;> rfl):Ef Tryz.prog N E o F H fun F' H'=>F'=(d,.o b 0 k k) :: F∧H'=H2:=zA5 ho hd hN (KE ht) (zk5 hp) hn (KZ hz) hzs hr hle hnm hb hH
theorem Ymak {d by_ l c b:Nat} {kx ky:IntKind} {z:Value} {vs:List Value} {zx zy:Int} {H2:List OB} (ho:o.op = .makeSlice t x y:=by exact rfl) (ht:bE.get t=some (e,sz):=by exact rfl) (hi:bI.get e=some (z,sz,by_):=by exact rfl) (hd:o.dst=some d:=by exact rfl) (hN:d < N:=by decide) (hx:ev F x=some (.c (.s (.int kx zx))):=by exact rfl) (hzx:zx=l:=by first|rfl|omega) (hy:ev F y=some (.c (.s (.int ky zy))):=by exact rfl) (hzy:zy=c:=by first|rfl|omega) (hlc:l≤c:=by omega) (hb':by_*c≤281474976710656:=by omega) (hc:c≤281474976710656:=by omega) (hvs:z.cells=vs.toArray:=by exact rfl) (hsz:vs.length=sz:=by exact rfl) (h1:vs.all Value.oneCell'=true:=by exact rfl) (hb:H.length=b:=by(try simp only[nm,putL,Nat.reduceAdd,cellsOf,cvOf]) <;> rfl) (hH:H++[.arr e sz c (List.replicate c (vs.map cvOf))]=H2:=by(try simp only[nm,putL,Nat.reduceAdd,cellsOf,cvOf]) <;> rfl):Ef Tryz.prog N E o F H fun F' H'=>F'=(d,.o b 0 l c) :: F∧H'=H2:=ef_maken ho hd hN (KU ht) (KI hi) hx hzx hy hzy hlc hb' hc hvs hsz h1 hb hH
theorem YJo {ix:Operand} {i:Nat} {kd:IntKind} {z:Int} {v:Value} {rows:List (List CV)} {row:List CV} (ho:o.op = .indexAddr t x ix:=by exact rfl) (ht:bE.get t=some (e,sz):=by exact rfl) (hx:ev F x=some (.c (.r v rows)):=by exact rfl) (hi:rows[i]?=some row:=by assumption) (hix:ev F ix=some (.c (.s (.int kd z))):=by exact rfl) (hz:z=i:=by omega) (hl:row.length=sz:=by exact rfl):Rd Tryz.prog N E o F H (.q v i sz row 0):=zh3 ho (KE ht) hx hix hz hi hl
theorem Ylns {l:List UInt8} (ho:o.op = .call { callee:=.builtin .len,args:=#[x],argTypes:=#[9] }:=by exact rfl) (hx:ev F x=some (.c (T l)):=by exact rfl):Rd Tryz.prog N E o F H (.c (.s (.int .i64 l.length))):=by
 have:=rd_lens (P:=Tryz.prog) (N:=N) (E:=E) (H:=H) ho Tryz.underlying9 hx
 rwa [zi1] at this
theorem Yidx {ix:Operand} {l:List UInt8} {i:Nat} {kd:IntKind} {z:Int} {b:UInt8} (ho:o.op = .index 9 x ix:=by exact rfl) (hx:ev F x=some (.c (T l)):=by exact rfl) (hix:ev F ix=some (.c (.s (.int kd z))):=by exact rfl) (hz:z=i:=by first|exact rfl|omega) (hb:l[i]?=some b:=by first|assumption|exact rfl):Rd Tryz.prog N E o F H (.c (.s (.int .u8 b.toNat))):=zg4 ho Tryz.underlying9 hx hix hz hb
theorem Yads {a b:List UInt8} (ho:o.op = .binOp .add 9 x y yt:=by exact rfl) (hx:ev F x=some (.c (T a)):=by exact rfl) (hy:ev F y=some (.c (T b)):=by exact rfl) (hl:a.length+b.length≤9223372036854775807:=by first|omega|(simp;omega)):Rd Tryz.prog N E o F H (.c (T (a++b))):=rd_adds ho Tryz.underlying9 hx hy hl
theorem Yeqs {a b:List UInt8} (ho:o.op = .binOp .eql 9 x y yt:=by exact rfl) (hx:ev F x=some (.c (T a)):=by exact rfl) (hy:ev F y=some (.c (T b)):=by exact rfl):Rd Tryz.prog N E o F H (.c (.s (.bool (decide (a=b))))):=zS7 ho Tryz.underlying9 hx hy
theorem Ynes {a b:List UInt8} (ho:o.op = .binOp .neq 9 x y yt:=by exact rfl) (hx:ev F x=some (.c (T a)):=by exact rfl) (hy:ev F y=some (.c (T b)):=by exact rfl):Rd Tryz.prog N E o F H (.c (.s (.bool (decide (a≠b))))):=zN7 ho Tryz.underlying9 hx hy
structure PoolIx (p:Nat):Prop where
 h:True
structure InPool (k B:Nat) (l:List PE) (row:List CV):Prop where
 h:l[k]?=some (.bx (.pointer (some ⟨B,0,none⟩)) row)
theorem InPool.set {k B:Nat} {l:List PE} {row row':List CV} (h:InPool k B l row):InPool k B (l.set k (.bx (.pointer (some ⟨B,0,none⟩)) row')) row':=⟨by rw[List.getElem?_set_self (List.getElem?_eq_some_iff.1 h.h).1]⟩
theorem YP {p k B j:Nat} {l:List PE} {row:List CV} {u:CV} (ho:o.op = .load t x:=by exact rfl) (ht:bK.get t=some none:=by exact rfl) (hx:ev F x=some (.c (.s (.pointer (some ⟨B,j,none⟩)))):=by exact rfl) (hpx:PoolIx p:=by assumption) (hp:H[p]?=some (.pool l):=by exact rfl) (hk:InPool k B l row:=by first|assumption|exact InPool.set (by assumption)|exact InPool.set (InPool.set (by assumption))) (hu:row[j]?=some u:=by exact rfl):Rd Tryz.prog N E o F H (.c u):=by
 have h1:=Cells.pool (j:=j) hp hk.h
 have h2:(row.drop j).map AV.c = .c u :: (row.drop (j+1)).map .c:=by
  rw[List.drop_eq_getElem_cons (List.getElem?_eq_some_iff.1 hu).1,(List.getElem?_eq_some_iff.1 hu).2];rfl
 rw[h2] at h1
 exact zg5 ho (KK ht) hx h1
theorem Ystp {v:AV} {p k B j q:Nat} {z:Value} {by_:Nat} {l:List PE} {row us row':List CV} {H2:List OB} (ho:o.op = .store t x y:=by exact rfl) (ht:bI.get t=some (z,q,by_):=by exact rfl) (hd:o.dst=none:=by exact rfl) (hx:ev F x=some (.c (.s (.pointer (some ⟨B,j,none⟩)))):=by exact rfl) (hpx:PoolIx p:=by assumption) (hp:H[p]?=some (.pool l):=by exact rfl) (hk:InPool k B l row:=by first|assumption|exact InPool.set (by assumption)|exact InPool.set (InPool.set (by assumption))) (hy:ev F y=some v:=by exact rfl) (hu:uncl (cellsOf v)=some us:=by exact rfl) (hn:us.length=q:=by exact rfl) (hj:j+q≤row.length:=by simp) (h1:us.all CV.one=true:=by exact rfl) (hl:putL row j us=row':=by(try simp only[nm,putL,Nat.reduceAdd,cellsOf,cvOf]) <;> rfl) (hH2:H.set p (.pool (l.set k (.bx (.pointer (some ⟨B,0,none⟩)) row')))=H2:=by exact rfl):Ef Tryz.prog N E o F H fun F' H'=>F'=F∧H'=H2:=by
 subst hH2
 exact zo11 ho hd hx hp hk.h hy (KS ht) (zc6 hu) hn hj h1 hl
theorem Ypn {p:Option Addr} {q:Bool} (ho:o.op = .binOp .neq t x (.const (.pointer none)) yt:=by exact rfl) (hx:ev F x=some (.c (.s (.pointer p))):=by exact rfl) (hq:p.isSome=q:=by exact rfl) (ht:Tryz.prog.underlying t=some (.pointer (Tryz.prog.pointee t)):=by kernel_rfl):Rd Tryz.prog N E o F H (.c (.s (.bool q))):=rd_pne hq ho ht hx
theorem Ype {p:Option Addr} {q:Bool} (ho:o.op = .binOp .eql t x (.const (.pointer none)) yt:=by exact rfl) (hx:ev F x=some (.c (.s (.pointer p))):=by exact rfl) (hq:p.isNone=q:=by exact rfl) (ht:Tryz.prog.underlying t=some (.pointer (Tryz.prog.pointee t)):=by kernel_rfl):Rd Tryz.prog N E o F H (.c (.s (.bool q))):=rd_peq hq ho ht hx
end
theorem zi5 {N:Nat} {E:Env} {o:Oper} {F:Fm} {H:List OB} {x y:Operand} {yt:TypeId} {a0:Int} {a1:Int} {b0:Int} {b1:Int} (ho:o.op = .binOp .eql 43 x y yt) (hx:ev F x=some (.a [.c (.s (.int .i64 a0)),.c (.s (.int .i64 a1))])) (hy:ev F y=some (.a [.c (.s (.int .i64 b0)),.c (.s (.int .i64 b1))])):Rd Tryz.prog N E o F H (.c (.s (.bool (decide (a0=b0∧a1=b1))))):=
 zj2 (dx:=.agg #[.int .i64 a0,.int .i64 a1]) (dy:=.agg #[.int .i64 b0,.int .i64 b1]) ho hx hy (fun _ _=>by simp[AV.den,CV.den,AV.denL]) (fun _ _=>by simp[AV.den,CV.den,AV.denL]) fun w=>by
  go_simp
  repeat' split
  all_goals simp_all
theorem zb7 {N:Nat} {E:Env} {o:Oper} {F:Fm} {H:List OB} {x y:Operand} {yt:TypeId} {a0:Int} {a1:Int} {b0:Int} {b1:Int} (ho:o.op = .binOp .neq 43 x y yt) (hx:ev F x=some (.a [.c (.s (.int .i64 a0)),.c (.s (.int .i64 a1))])) (hy:ev F y=some (.a [.c (.s (.int .i64 b0)),.c (.s (.int .i64 b1))])):Rd Tryz.prog N E o F H (.c (.s (.bool (decide (¬(a0=b0∧a1=b1)))))):=
 zj2 (dx:=.agg #[.int .i64 a0,.int .i64 a1]) (dy:=.agg #[.int .i64 b0,.int .i64 b1]) ho hx hy (fun _ _=>by simp[AV.den,CV.den,AV.denL]) (fun _ _=>by simp[AV.den,CV.den,AV.denL]) fun w=>by
  go_simp
  repeat' split
  all_goals simp_all
theorem zN3 {N:Nat} {E:Env} {o:Oper} {F:Fm} {H:List OB} {x y:Operand} {yt:TypeId} {a0:Int} {a1:Int} {a2:Int} {b0:Int} {b1:Int} {b2:Int} (ho:o.op = .binOp .eql 90 x y yt) (hx:ev F x=some (.a [.c (.s (.int .i64 a0)),.c (.s (.int .i64 a1)),.c (.s (.int .i64 a2))])) (hy:ev F y=some (.a [.c (.s (.int .i64 b0)),.c (.s (.int .i64 b1)),.c (.s (.int .i64 b2))])):Rd Tryz.prog N E o F H (.c (.s (.bool (decide (a0=b0∧a1=b1∧a2=b2))))):=
 zj2 (dx:=.agg #[.int .i64 a0,.int .i64 a1,.int .i64 a2]) (dy:=.agg #[.int .i64 b0,.int .i64 b1,.int .i64 b2]) ho hx hy (fun _ _=>by simp[AV.den,CV.den,AV.denL]) (fun _ _=>by simp[AV.den,CV.den,AV.denL]) fun w=>by
  go_simp
  repeat' split
  all_goals simp_all
theorem za7 {N:Nat} {E:Env} {o:Oper} {F:Fm} {H:List OB} {x y:Operand} {yt:TypeId} {a0:Int} {a1:Int} {a2:Int} {b0:Int} {b1:Int} {b2:Int} (ho:o.op = .binOp .neq 90 x y yt) (hx:ev F x=some (.a [.c (.s (.int .i64 a0)),.c (.s (.int .i64 a1)),.c (.s (.int .i64 a2))])) (hy:ev F y=some (.a [.c (.s (.int .i64 b0)),.c (.s (.int .i64 b1)),.c (.s (.int .i64 b2))])):Rd Tryz.prog N E o F H (.c (.s (.bool (decide (¬(a0=b0∧a1=b1∧a2=b2)))))):=
 zj2 (dx:=.agg #[.int .i64 a0,.int .i64 a1,.int .i64 a2]) (dy:=.agg #[.int .i64 b0,.int .i64 b1,.int .i64 b2]) ho hx hy (fun _ _=>by simp[AV.den,CV.den,AV.denL]) (fun _ _=>by simp[AV.den,CV.den,AV.denL]) fun w=>by
  go_simp
  repeat' split
  all_goals simp_all
theorem zh4 {N:Nat} {E:Env} {o:Oper} {F:Fm} {H:List OB} {x y:Operand} {yt:TypeId} {a0:Int} {a1:Int} {b0:Int} {b1:Int} (ho:o.op = .binOp .eql 189 x y yt) (hx:ev F x=some (.a [.c (.s (.int .i64 a0)),.c (.s (.int .i64 a1))])) (hy:ev F y=some (.a [.c (.s (.int .i64 b0)),.c (.s (.int .i64 b1))])):Rd Tryz.prog N E o F H (.c (.s (.bool (decide (a0=b0∧a1=b1))))):=
 zj2 (dx:=.agg #[.int .i64 a0,.int .i64 a1]) (dy:=.agg #[.int .i64 b0,.int .i64 b1]) ho hx hy (fun _ _=>by simp[AV.den,CV.den,AV.denL]) (fun _ _=>by simp[AV.den,CV.den,AV.denL]) fun w=>by
  go_simp
  repeat' split
  all_goals simp_all
theorem zH5 {N:Nat} {E:Env} {o:Oper} {F:Fm} {H:List OB} {x y:Operand} {yt:TypeId} {a0:Int} {a1:Int} {b0:Int} {b1:Int} (ho:o.op = .binOp .neq 189 x y yt) (hx:ev F x=some (.a [.c (.s (.int .i64 a0)),.c (.s (.int .i64 a1))])) (hy:ev F y=some (.a [.c (.s (.int .i64 b0)),.c (.s (.int .i64 b1))])):Rd Tryz.prog N E o F H (.c (.s (.bool (decide (¬(a0=b0∧a1=b1)))))):=
 zj2 (dx:=.agg #[.int .i64 a0,.int .i64 a1]) (dy:=.agg #[.int .i64 b0,.int .i64 b1]) ho hx hy (fun _ _=>by simp[AV.den,CV.den,AV.denL]) (fun _ _=>by simp[AV.den,CV.den,AV.denL]) fun w=>by
  go_simp
  repeat' split
  all_goals simp_all
theorem zI5 {N:Nat} {E:Env} {o:Oper} {F:Fm} {H:List OB} {x y:Operand} {yt:TypeId} {a0:Int} {a1:Int} {b0:Int} {b1:Int} (ho:o.op = .binOp .eql 325 x y yt) (hx:ev F x=some (.a [.c (.s (.int .i64 a0)),.c (.s (.int .i64 a1))])) (hy:ev F y=some (.a [.c (.s (.int .i64 b0)),.c (.s (.int .i64 b1))])):Rd Tryz.prog N E o F H (.c (.s (.bool (decide (a0=b0∧a1=b1))))):=
 zj2 (dx:=.agg #[.int .i64 a0,.int .i64 a1]) (dy:=.agg #[.int .i64 b0,.int .i64 b1]) ho hx hy (fun _ _=>by simp[AV.den,CV.den,AV.denL]) (fun _ _=>by simp[AV.den,CV.den,AV.denL]) fun w=>by
  go_simp
  repeat' split
  all_goals simp_all
theorem zG5 {N:Nat} {E:Env} {o:Oper} {F:Fm} {H:List OB} {x y:Operand} {yt:TypeId} {a0:Int} {a1:Int} {b0:Int} {b1:Int} (ho:o.op = .binOp .neq 325 x y yt) (hx:ev F x=some (.a [.c (.s (.int .i64 a0)),.c (.s (.int .i64 a1))])) (hy:ev F y=some (.a [.c (.s (.int .i64 b0)),.c (.s (.int .i64 b1))])):Rd Tryz.prog N E o F H (.c (.s (.bool (decide (¬(a0=b0∧a1=b1)))))):=
 zj2 (dx:=.agg #[.int .i64 a0,.int .i64 a1]) (dy:=.agg #[.int .i64 b0,.int .i64 b1]) ho hx hy (fun _ _=>by simp[AV.den,CV.den,AV.denL]) (fun _ _=>by simp[AV.den,CV.den,AV.denL]) fun w=>by
  go_simp
  repeat' split
  all_goals simp_all
def okd (op:Op):Option Nat:=match op with
 | .move _=>some 20
 | .assign _=>some 20
 | .pick ..=>some 20
 | .extract ..=>some 20
 | .fieldAddr ..=>some 20
 | .nilCheck _=>some 20
 | .unOp .not _ _=>some 20
 | .binOp ..=>some 1
 | .store ..=>some 2
 | .indexAddr ..=>some 3
 | .load ..=>some 4
 | .slice ..=>some 5
 | .buildSlice ..=>some 6
 | .alloc ..=>some 7
 | .box ..=>some 8
 | .build ..=>some 9
 | .unOp ..=>some 10
 | .makeFunc ..=>some 11
 | .makeSlice ..=>some 12
 | .call ⟨.builtin .len,_,_⟩=>some 14
 | .index ..=>some 15
 | .call ⟨.builtin .cap,_,_⟩=>some 20
 | .call ⟨.builtin _,_,_⟩=>some 13
 | _=>none
def okc (ops:Array Oper) (o:Oper) (F:Fm):Option Nat:=match o.guard with
 | none=>okd o.op
 | some _=>match gd ops o F with
  | some true=>okd o.op
  | some false=>some 20
  | none=>none
def KD (_:Nat) (A:Prop):Prop:=A
theorem kd {A:Prop} (k:Nat) (h:A):KD k A:=h
theorem dkc {P:Program} {k:Nat} (ho:okc ops o F=some k) (h:KD k (AL P N E ops (o :: rest) F H Q)):AL P N E ops (o :: rest) F H Q:=h
theorem dkt {P:Program} {k i:Nat} {U:Option (List Nat)} {L:List (Nat × Option (List Nat))} (hi:ops[i]?=some o) (ho:okc ops o F=some k) (h:KD k (AT1 P N E ops o i U L F H Q)):AT P N E ops ((i,U) :: L) F H Q:=(show AT1 P N E ops o i U L F H Q from h) hi
theorem agX {j d:Nat} {v:AV} (ho:ops[j]?=some o:=by exact rfl) (hg:o.guard=none:=by exact rfl) (hd:o.dst=some d:=by exact rfl) (hr:Rd Tryz.prog N E o F H v) (hx:F.lookup d=some v:=by exact rfl):Ag Tryz.prog N E ops F H j:=zF ho hg hd hr hx
theorem agAdd {j d:Nat} {t yt:TypeId} {x y:Operand} {m n r:Int} (ho:ops[j]?=some o:=by exact rfl) (hg:o.guard=none:=by exact rfl) (hd:o.dst=some d:=by exact rfl) (hop:o.op = .binOp .add t x y yt:=by exact rfl) (hx:ev F x=some (.c (.s (.int .i64 m))):=by exact rfl) (hy:ev F y=some (.c (.s (.int .i64 n))):=by exact rfl) (hl:F.lookup d=some (.c (.s (.int .i64 r))):=by exact rfl) (hr:wrap64 (m+n)=r:=by first|exact rfl|exact(Zwr (by omega)).trans (by first|rfl|omega)):Ag Tryz.prog N E ops F H j:=zF ho hg hd (by subst hr;exact rd_add hop hx hy) hl
theorem agSub {j d:Nat} {t yt:TypeId} {x y:Operand} {m n r:Int} (ho:ops[j]?=some o:=by exact rfl) (hg:o.guard=none:=by exact rfl) (hd:o.dst=some d:=by exact rfl) (hop:o.op = .binOp .sub t x y yt:=by exact rfl) (hx:ev F x=some (.c (.s (.int .i64 m))):=by exact rfl) (hy:ev F y=some (.c (.s (.int .i64 n))):=by exact rfl) (hl:F.lookup d=some (.c (.s (.int .i64 r))):=by exact rfl) (hr:wrap64 (m - n)=r:=by first|exact rfl|exact(Zwr (by omega)).trans (by first|rfl|omega)):Ag Tryz.prog N E ops F H j:=zF ho hg hd (by subst hr;exact rd_sub hop hx hy) hl
theorem agMul {j d:Nat} {t yt:TypeId} {x y:Operand} {m n r:Int} (ho:ops[j]?=some o:=by exact rfl) (hg:o.guard=none:=by exact rfl) (hd:o.dst=some d:=by exact rfl) (hop:o.op = .binOp .mul t x y yt:=by exact rfl) (hx:ev F x=some (.c (.s (.int .i64 m))):=by exact rfl) (hy:ev F y=some (.c (.s (.int .i64 n))):=by exact rfl) (hl:F.lookup d=some (.c (.s (.int .i64 r))):=by exact rfl) (hr:wrap64 (m*n)=r:=by first|exact rfl|exact(Zwr (by omega)).trans (by first|rfl|omega)):Ag Tryz.prog N E ops F H j:=zF ho hg hd (by subst hr;exact rd_mul hop hx hy) hl
structure LkF (b:Nat) (M:OB) (t:TypeId) (z:Bool) (k v:AV):Prop where
 h:∀{N:Nat} {E:Env} {F:Fm} {H:List OB} {o:Oper} {x ix:Operand},o.op = .lookup t x ix z→ev F x=some (.mp b)→H[b]?=some M→ev F ix=some k→Rd Tryz.prog N E o F H v
theorem agLk {j d b:Nat} {M:OB} {t:TypeId} {z:Bool} {k v:AV} {x ix:Operand} (ho:ops[j]?=some o:=by exact rfl) (hg:o.guard=none:=by exact rfl) (hd:o.dst=some d:=by exact rfl) (hop:o.op = .lookup t x ix z:=by exact rfl) (hx:ev F x=some (.mp b):=by exact rfl) (hH:H[b]?=some M:=by exact rfl) (hi:ev F ix=some k:=by exact rfl) (hl:F.lookup d=some v:=by exact rfl) (hL:LkF b M t z k v:=by assumption):Ag Tryz.prog N E ops F H j:=zF ho hg hd (hL.h hop hx hH hi) hl
theorem agSe {j d:Nat} {x y:Operand} {yt:TypeId} {a b:List UInt8} {q:Bool} (ho:ops[j]?=some o:=by exact rfl) (hg:o.guard=none:=by exact rfl) (hd:o.dst=some d:=by exact rfl) (hop:o.op = .binOp .eql 9 x y yt:=by exact rfl) (hx:ev F x=some (.c (T a)):=by exact rfl) (hy:ev F y=some (.c (T b)):=by exact rfl) (hl:F.lookup d=some (.c (.s (.bool q))):=by exact rfl) (hq:decide (a=b)=q:=by assumption):Ag Tryz.prog N E ops F H j:=zF ho hg hd (by subst hq;exact zS7 hop Tryz.underlying9 hx hy) hl
theorem agSn {j d:Nat} {x y:Operand} {yt:TypeId} {a b:List UInt8} {q:Bool} (ho:ops[j]?=some o:=by exact rfl) (hg:o.guard=none:=by exact rfl) (hd:o.dst=some d:=by exact rfl) (hop:o.op = .binOp .neq 9 x y yt:=by exact rfl) (hx:ev F x=some (.c (T a)):=by exact rfl) (hy:ev F y=some (.c (T b)):=by exact rfl) (hl:F.lookup d=some (.c (.s (.bool q))):=by exact rfl) (hq:decide (a≠b)=q:=by assumption):Ag Tryz.prog N E ops F H j:=zF ho hg hd (by subst hq;exact zN7 hop Tryz.underlying9 hx hy) hl
end
theorem WX1 {G A:Prop} (h:G) (hs:Hid G→A:=by(intro h;refine dkc rfl ?_;(first|((with_reducible refine kd 20 ?_);refine M3 rfl ?_)|((with_reducible refine kd 4 ?_);first|refine M3 rfl ?_|refine zA YL ?_|refine zA YK ?_|refine zA YP ?_)|((with_reducible refine kd 1 ?_);first|refine zA Zeql ?_|refine zA Zadd ?_|refine zA Zlss ?_|refine zA Zneq ?_|refine zA Zsub ?_|refine zA Zmul ?_|refine zA Zgtr ?_|refine zA Zleq ?_|refine zA Zgeq ?_|refine zA Zquo ?_|refine zA Zqut ?_|refine zA Zquw ?_|refine zA Zrem ?_|refine zA Zrew ?_|refine zA Ynil ?_|refine zA Yeqb ?_|refine zA Yneb ?_|refine zA Yeqs ?_|refine zA Ynes ?_|refine zA Yads ?_|refine zA (zi5 rfl rfl rfl) ?_|refine zA (zb7 rfl rfl rfl) ?_|refine zA (zN3 rfl rfl rfl) ?_|refine zA (za7 rfl rfl rfl) ?_|refine zA (zh4 rfl rfl rfl) ?_|refine zA (zH5 rfl rfl rfl) ?_|refine zA (zI5 rfl rfl rfl) ?_|refine zA (zG5 rfl rfl rfl) ?_|refine zA Ypn ?_|refine zA Ype ?_)|((with_reducible refine kd 2 ?_);first|refine zz5 Ysto ?_|refine zz5 Ystr ?_|refine zz5 Ystp ?_)|((with_reducible refine kd 3 ?_);first|refine zA YI ?_|refine zA YJ ?_|refine zA YJo ?_)|((with_reducible refine kd 14 ?_);first|refine M3 rfl ?_|refine zA Ylns ?_)|((with_reducible refine kd 15 ?_);refine zA Yidx ?_)|((with_reducible refine kd 5 ?_);refine zA Ysli ?_)|((with_reducible refine kd 6 ?_);refine zz5 Ybsl ?_)|((with_reducible refine kd 7 ?_);refine zz5 Yall ?_)|((with_reducible refine kd 8 ?_);refine zz5 Zbox ?_)|((with_reducible refine kd 9 ?_);refine zA Ybld ?_)|((with_reducible refine kd 10 ?_);refine zA Yneg ?_)|((with_reducible refine kd 11 ?_);refine zA Ymkf ?_)|((with_reducible refine kd 12 ?_);refine zz5 Ymak ?_)|((with_reducible refine kd 13 ?_);first|refine zA (zW (ty:=0) rfl rfl rfl) ?_|refine zA (zX rfl rfl rfl) ?_|refine zA (zP7 rfl rfl rfl rfl) ?_|refine zA (zQ7 rfl rfl rfl rfl) ?_|refine zA (zO7 rfl rfl rfl rfl rfl) ?_));exact h.out)):A:=hs ⟨h⟩
theorem WX2 {G A:Prop} (h:G) (hs:Hid G→A:=by(intro h;refine dkt rfl rfl ?_;(first|((with_reducible refine kd 20 ?_);refine M4 rfl ?_)|((with_reducible refine kd 4 ?_);first|refine M4 rfl ?_|refine zw YL ?_|refine zw YK ?_|refine zw YP ?_)|((with_reducible refine kd 1 ?_);first|refine zw Zeql ?_|refine zw Zadd ?_|refine zw Zlss ?_|refine zw Zneq ?_|refine zw Zsub ?_|refine zw Zmul ?_|refine zw Zgtr ?_|refine zw Zleq ?_|refine zw Zgeq ?_|refine zw Zquo ?_|refine zw Zqut ?_|refine zw Zquw ?_|refine zw Zrem ?_|refine zw Zrew ?_|refine zw Ynil ?_|refine zw Yeqb ?_|refine zw Yneb ?_|refine zw Yeqs ?_|refine zw Ynes ?_|refine zw Yads ?_|refine zw (zi5 rfl rfl rfl) ?_|refine zw (zb7 rfl rfl rfl) ?_|refine zw (zN3 rfl rfl rfl) ?_|refine zw (za7 rfl rfl rfl) ?_|refine zw (zh4 rfl rfl rfl) ?_|refine zw (zH5 rfl rfl rfl) ?_|refine zw (zI5 rfl rfl rfl) ?_|refine zw (zG5 rfl rfl rfl) ?_|refine zw Ypn ?_|refine zw Ype ?_)|((with_reducible refine kd 2 ?_);first|refine zw5 Ysto (by(repeat first|exact zk|(refine zj (by first|exact agT rfl rfl rfl rfl|exact agX (hr:=YL)|exact agX (hr:=YK)|exact agX (hr:=YIj)|exact agX (hr:=YJ)|exact agX (hr:=YJo)|exact agX (hr:=YI)|exact agX (hr:=Ybld)|exact agAdd|exact agSub|exact agMul|exact agX (hr:=Ysli)|exact agX (hr:=Zquo)|exact agX (hr:=Zqut)|exact agX (hr:=Zrem)|exact agX (hr:=Yidx)|exact agX (hr:=Ylns)|exact agX (hr:=Yeqs)|exact agX (hr:=Ynes)|exact agX (hr:=Zlss)|exact agX (hr:=Zeql)|exact agX (hr:=Zneq)|exact agX (hr:=zW (ty:=0) rfl rfl rfl)|exact agX (hr:=zX rfl rfl rfl)|exact agX (hr:=YP)|exact agLk|exact agSe|exact agSn) ?_))) ?_|refine zw5 Ystr (by(repeat first|exact zk|(refine zj (by first|exact agT rfl rfl rfl rfl|exact agX (hr:=YL)|exact agX (hr:=YK)|exact agX (hr:=YIj)|exact agX (hr:=YJ)|exact agX (hr:=YJo)|exact agX (hr:=YI)|exact agX (hr:=Ybld)|exact agAdd|exact agSub|exact agMul|exact agX (hr:=Ysli)|exact agX (hr:=Zquo)|exact agX (hr:=Zqut)|exact agX (hr:=Zrem)|exact agX (hr:=Yidx)|exact agX (hr:=Ylns)|exact agX (hr:=Yeqs)|exact agX (hr:=Ynes)|exact agX (hr:=Zlss)|exact agX (hr:=Zeql)|exact agX (hr:=Zneq)|exact agX (hr:=zW (ty:=0) rfl rfl rfl)|exact agX (hr:=zX rfl rfl rfl)|exact agX (hr:=YP)|exact agLk|exact agSe|exact agSn) ?_))) ?_|refine zw5 Ystp (by(repeat first|exact zk|(refine zj (by first|exact agT rfl rfl rfl rfl|exact agX (hr:=YL)|exact agX (hr:=YK)|exact agX (hr:=YIj)|exact agX (hr:=YJ)|exact agX (hr:=YJo)|exact agX (hr:=YI)|exact agX (hr:=Ybld)|exact agAdd|exact agSub|exact agMul|exact agX (hr:=Ysli)|exact agX (hr:=Zquo)|exact agX (hr:=Zqut)|exact agX (hr:=Zrem)|exact agX (hr:=Yidx)|exact agX (hr:=Ylns)|exact agX (hr:=Yeqs)|exact agX (hr:=Ynes)|exact agX (hr:=Zlss)|exact agX (hr:=Zeql)|exact agX (hr:=Zneq)|exact agX (hr:=zW (ty:=0) rfl rfl rfl)|exact agX (hr:=zX rfl rfl rfl)|exact agX (hr:=YP)|exact agLk|exact agSe|exact agSn) ?_))) ?_)|((with_reducible refine kd 3 ?_);first|refine zw YI ?_|refine zw YJ ?_|refine zw YJo ?_)|((with_reducible refine kd 14 ?_);first|refine M4 rfl ?_|refine zw Ylns ?_)|((with_reducible refine kd 15 ?_);refine zw Yidx ?_)|((with_reducible refine kd 5 ?_);refine zw Ysli ?_)|((with_reducible refine kd 6 ?_);refine zw5 Ybsl (by(repeat first|exact zk|(refine zj (by first|exact agT rfl rfl rfl rfl|exact agX (hr:=YL)|exact agX (hr:=YK)|exact agX (hr:=YIj)|exact agX (hr:=YJ)|exact agX (hr:=YJo)|exact agX (hr:=YI)|exact agX (hr:=Ybld)|exact agAdd|exact agSub|exact agMul|exact agX (hr:=Ysli)|exact agX (hr:=Zquo)|exact agX (hr:=Zqut)|exact agX (hr:=Zrem)|exact agX (hr:=Yidx)|exact agX (hr:=Ylns)|exact agX (hr:=Yeqs)|exact agX (hr:=Ynes)|exact agX (hr:=Zlss)|exact agX (hr:=Zeql)|exact agX (hr:=Zneq)|exact agX (hr:=zW (ty:=0) rfl rfl rfl)|exact agX (hr:=zX rfl rfl rfl)|exact agX (hr:=YP)|exact agLk|exact agSe|exact agSn) ?_))) ?_)|((with_reducible refine kd 7 ?_);refine zw5 Yall (by(repeat first|exact zk|(refine zj (by first|exact agT rfl rfl rfl rfl|exact agX (hr:=YL)|exact agX (hr:=YK)|exact agX (hr:=YIj)|exact agX (hr:=YJ)|exact agX (hr:=YJo)|exact agX (hr:=YI)|exact agX (hr:=Ybld)|exact agAdd|exact agSub|exact agMul|exact agX (hr:=Ysli)|exact agX (hr:=Zquo)|exact agX (hr:=Zqut)|exact agX (hr:=Zrem)|exact agX (hr:=Yidx)|exact agX (hr:=Ylns)|exact agX (hr:=Yeqs)|exact agX (hr:=Ynes)|exact agX (hr:=Zlss)|exact agX (hr:=Zeql)|exact agX (hr:=Zneq)|exact agX (hr:=zW (ty:=0) rfl rfl rfl)|exact agX (hr:=zX rfl rfl rfl)|exact agX (hr:=YP)|exact agLk|exact agSe|exact agSn) ?_))) ?_)|((with_reducible refine kd 8 ?_);refine zw5 Zbox (by(repeat first|exact zk|(refine zj (by first|exact agT rfl rfl rfl rfl|exact agX (hr:=YL)|exact agX (hr:=YK)|exact agX (hr:=YIj)|exact agX (hr:=YJ)|exact agX (hr:=YJo)|exact agX (hr:=YI)|exact agX (hr:=Ybld)|exact agAdd|exact agSub|exact agMul|exact agX (hr:=Ysli)|exact agX (hr:=Zquo)|exact agX (hr:=Zqut)|exact agX (hr:=Zrem)|exact agX (hr:=Yidx)|exact agX (hr:=Ylns)|exact agX (hr:=Yeqs)|exact agX (hr:=Ynes)|exact agX (hr:=Zlss)|exact agX (hr:=Zeql)|exact agX (hr:=Zneq)|exact agX (hr:=zW (ty:=0) rfl rfl rfl)|exact agX (hr:=zX rfl rfl rfl)|exact agX (hr:=YP)|exact agLk|exact agSe|exact agSn) ?_))) ?_)|((with_reducible refine kd 9 ?_);refine zw Ybld ?_)|((with_reducible refine kd 10 ?_);refine zw Yneg ?_)|((with_reducible refine kd 11 ?_);refine zw Ymkf ?_)|((with_reducible refine kd 12 ?_);refine zw5 Ymak (by(repeat first|exact zk|(refine zj (by first|exact agT rfl rfl rfl rfl|exact agX (hr:=YL)|exact agX (hr:=YK)|exact agX (hr:=YIj)|exact agX (hr:=YJ)|exact agX (hr:=YJo)|exact agX (hr:=YI)|exact agX (hr:=Ybld)|exact agAdd|exact agSub|exact agMul|exact agX (hr:=Ysli)|exact agX (hr:=Zquo)|exact agX (hr:=Zqut)|exact agX (hr:=Zrem)|exact agX (hr:=Yidx)|exact agX (hr:=Ylns)|exact agX (hr:=Yeqs)|exact agX (hr:=Ynes)|exact agX (hr:=Zlss)|exact agX (hr:=Zeql)|exact agX (hr:=Zneq)|exact agX (hr:=zW (ty:=0) rfl rfl rfl)|exact agX (hr:=zX rfl rfl rfl)|exact agX (hr:=YP)|exact agLk|exact agSe|exact agSn) ?_))) ?_)|((with_reducible refine kd 13 ?_);first|refine zw (zW (ty:=0) rfl rfl rfl) ?_|refine zw (zX rfl rfl rfl) ?_|refine zw (zP7 rfl rfl rfl rfl) ?_|refine zw (zQ7 rfl rfl rfl rfl) ?_|refine zw (zO7 rfl rfl rfl rfl rfl) ?_));exact h.out)):A:=hs ⟨h⟩
theorem WO {G A:Prop} (h:G) (hs:Hid G→A:=by(intro h;(repeat refine WX1 ?_);exact h.out)):A:=hs ⟨h⟩
theorem WE {G A:Prop} (h:G) (hs:Hid G→A:=by(intro h;(repeat refine WX1 ?_);refine al_nil ?_;(repeat with_reducible first|apply S1|apply S2|apply S3|apply S4|apply S5|apply S6|apply S7|apply S8|refine S0 rfl ?_|apply SA|apply SB|apply SC);exact h.out)):A:=hs ⟨h⟩
theorem WR {G A:Prop} (h:G) (hs:Hid G→A:=by(intro h;(repeat with_reducible first|apply S1|apply S2|apply S3|apply S4|apply S5|apply S6|apply S7|apply S8|refine S0 rfl ?_|apply SA|apply SB|apply SC);refine ze ?_;(repeat refine WX1 ?_);exact h.out)):A:=hs ⟨h⟩
theorem WA {G A:Prop} (h:G) (hs:Hid G→A:=by(intro h;(repeat with_reducible first|apply S1|apply S2|apply S3|apply S4|apply S5|apply S6|apply S7|apply S8|refine S0 rfl ?_|apply SA|apply SB|apply SC);refine ze ?_;(repeat refine WX1 ?_);refine al_nil ?_;(repeat with_reducible first|apply S1|apply S2|apply S3|apply S4|apply S5|apply S6|apply S7|apply S8|refine S0 rfl ?_|apply SA|apply SB|apply SC);exact h.out)):A:=hs ⟨h⟩
theorem WP {G A:Prop} (h:G) (hs:Hid G→A:=by(intro h;(repeat refine WX2 ?_);exact h.out)):A:=hs ⟨h⟩
theorem WQ {G A:Prop} (h:G) (hs:Hid G→A:=by(intro h;(repeat refine WX2 ?_);refine at_nil ?_;(repeat with_reducible first|apply S1|apply S2|apply S3|apply S4|apply S5|apply S6|apply S7|apply S8|refine S0 rfl ?_|apply SA|apply SB|apply SC);exact h.out)):A:=hs ⟨h⟩
end Go.Proofs.YtophoepbedlhjaaGreatDoor
