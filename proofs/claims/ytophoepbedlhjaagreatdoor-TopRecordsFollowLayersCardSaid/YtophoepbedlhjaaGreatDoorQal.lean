/- Facts put out of sight; further results. -/
import Derived.Test.YtophoepbedlhjaaGreatDoorQak
set_option linter.unusedSimpArgs false
set_option linter.unusedVariables false
set_option linter.defProp false
namespace Go.Proofs.YtophoepbedlhjaaGreatDoor
section
open Go Go.RowKit
theorem nm:(∀{α:Type} (n:Nat) (a:α) (l:List α),(a :: l).take (n+1)=a :: l.take n)∧(∀{α:Type} (l:List α),l.take 0 = [])∧(∀{α:Type} (n:Nat),([]:List α).take n = [])∧(∀{α:Type} (l:List α),l.drop 0=l)∧(∀{α:Type} (n:Nat) (a:α) (l:List α),(a :: l).drop (n+1)=l.drop n)∧(∀{α:Type} (n:Nat),([]:List α).drop n = []) ∧
    (∀{α β:Type} (f:α→β) (a:α) (l:List α),(a :: l).map f=f a :: l.map f)∧(∀{α β:Type} (f:α→β),[].map f = [])∧(∀{α:Type} (l:List α),[]++l=l)∧(∀{α:Type} (a:α) (l l':List α),(a :: l)++l'=a :: (l++l'))∧(∀{α:Type} (l:List α),l++[]=l) ∧
    (∀{α:Type} (a:α) (l:List α),(a :: l).length=l.length+1)∧(∀{α:Type},([]:List α).length=0)∧(∀{α:Type} (l l':List α),(l++l').length=l.length+l'.length)∧(∀{α β:Type} (f:α→β) (l:List α),(l.map f).length=l.length)∧(∀{α:Type} (l:List α) (n:Nat) (a:α),(l.set n a).length=l.length) ∧
    (∀{α:Type} (l:List α) (a b:α),(a :: l).set 0 b=b :: l)∧(∀{α:Type} (l:List α) (n:Nat) (a b:α),(a :: l).set (n+1) b=a :: l.set n b):=by
 refine⟨?_, ?_, ?_, ?_, ?_, ?_, ?_, ?_, ?_, ?_, ?_, ?_, ?_, ?_, ?_, ?_, ?_, ?_⟩ <;> intros <;> simp
section
variable {P:Program} {F:Fm} {H:List OB}
theorem zt8 {fn:Func} {nl q b k n c sz cap:Nat} {e:TypeId} {rows rs:List (List CV)} {Qr:AV→List OB→Prop} {z:AV} (m:List (Option Nat)) (H':List OB) (hr:fn.results=#[.tmp q]) (h:F.lookup q=some z) (hz:z = .o b k n c) (hb:H[b]?=some (.arr e sz cap rows)) (hrs:(rows.drop k).take n=rs) (hn:rs.length=n) (hmb:m.contains (some b)=false)
    (hm:(m.filterMap id).Nodup) (hl:∀i,i < nl→m[i]?=some (some i)) (hH:∀g,CvH g m H true m H') (hq:∀v,Qr (.c (.r v rs)) H'):ARet P fn nl Qr .ret F H:=by
 subst hz
 exact zI m (fun g=>.c (.r (g (.o b k n c)) rs)) (fun _=>H') (by rw[hr];exact .tmp h .nil) hm hl (fun _=>.frz rfl hb hrs hn hmb) hH (fun _=>hq _)
theorem aret_f2 {fn:Func} {nl q r b k n c sz cap:Nat} {e:TypeId} {rows rs:List (List CV)} {Qr:AV→List OB→Prop} {z z2:AV} {v2:CV} (m:List (Option Nat)) (H':List OB) (hr:fn.results=#[.tmp q,.tmp r]) (h:F.lookup q=some z) (hz:z = .o b k n c) (h2:F.lookup r=some z2) (hz2:z2 = .c v2) (hb:H[b]?=some (.arr e sz cap rows)) (hrs:(rows.drop k).take n=rs) (hn:rs.length=n) (hmb:m.contains (some b)=false)
    (hm:(m.filterMap id).Nodup) (hl:∀i,i < nl→m[i]?=some (some i)) (hH:∀g,CvH g m H true m H') (hq:∀v,Qr (.t [.c (.r v rs),.c v2]) H'):ARet P fn nl Qr .ret F H:=by
 subst hz;subst hz2
 exact zI m (fun g=>.t [.c (.r (g (.o b k n c)) rs),.c v2]) (fun _=>H') (by rw[hr];exact .tmp h (.tmp h2 .nil)) hm hl (fun _=>.tL (.cons (.frz rfl hb hrs hn hmb) (.cons (.c rfl) .nil))) hH (fun _=>hq _)
end
section
variable {P:Program} {N:Nat} {E:Env} {F:Fm} {H:List OB} {o:Oper} {Q:Exit→Fm→List OB→Prop} {ops:Array Oper} {rest:List Oper}
abbrev un:AV:=.c (.s undef)
theorem zl3 {S:Nat→Prop} {ρ:List (Option Nat)} {a:Act} {w:World} {i t:Nat} {oi:Oper} (hR:R N E S ρ F H a w) (hi:ops[i]?=some oi) (ht:oi.dst=some t) (hb:F.lookup t=some un):yielded ops a.tmps i=none:=by
 have:=(hR.fr t _ hb).1
 unfold yielded
 simp only[hi,Option.bind_some,ht,this]
 rfl
theorem al_skip {i t d:Nat} {oi:Oper} {b b':Bool} (hg:o.guard=some (i,b)) (hi:ops[i]?=some oi) (ht:oi.dst=some t) (hb:F.lookup t=some (.c (.s (.bool b')))) (hne:(b' == b)=false) (hd:o.dst=some d) (hN:d < N) (h:AL P N E ops rest ((d,un) :: F) H Q) :
    AL P N E ops (o :: rest) F H Q:=fun S ρ a w hR n=>by
 have h1:=h S ρ _ w (hR.put hN (.c (.s _))) n
 unfold wpListIn
 rw[if_neg (by
  simp only[Region.wanted,hg,zr1 hR hi ht hb]
  cases b <;> cases b' <;> simp_all)]
 rw[hd]
 exact⟨fun f _=>E.ok.fn f,h1⟩
theorem al_skipu {i t d:Nat} {oi:Oper} {b:Bool} (hg:o.guard=some (i,b)) (hi:ops[i]?=some oi) (ht:oi.dst=some t) (hb:F.lookup t=some un) (hd:o.dst=some d) (hN:d < N) (h:AL P N E ops rest ((d,un) :: F) H Q) :
    AL P N E ops (o :: rest) F H Q:=fun S ρ a w hR n=>by
 have h1:=h S ρ _ w (hR.put hN (.c (.s _))) n
 unfold wpListIn
 rw[if_neg (by simp[Region.wanted,hg,zl3 hR hi ht hb])]
 rw[hd]
 exact⟨fun f _=>E.ok.fn f,h1⟩
theorem at_skip {i j t d:Nat} {L:List (Nat × Option (List Nat))} {oj:Oper} {b b':Bool} (ho:ops[i]?=some o) (hg:o.guard=some (j,b)) (hj:ops[j]?=some oj) (ht:oj.dst=some t) (hb:F.lookup t=some (.c (.s (.bool b')))) (hne:(b' == b)=false) (hd:o.dst=some d) (hN:d < N)
    (h:AT P N E ops L ((d,un) :: F) H Q):AT P N E ops ((i,none) :: L) F H Q:=fun S ρ a w hR=>by
 refine wpT_r ho fun K hK=>?_
 rw[if_neg (by
  simp only[Region.wanted,hg,zr1 hR hj ht hb]
  cases b <;> cases b' <;> simp_all)]
 rw[hd]
 exact hK _ (h S ρ _ w (hR.put hN (.c (.s _))))
theorem at_skipu {i j t d:Nat} {L:List (Nat × Option (List Nat))} {oj:Oper} {b:Bool} (ho:ops[i]?=some o) (hg:o.guard=some (j,b)) (hj:ops[j]?=some oj) (ht:oj.dst=some t) (hb:F.lookup t=some un) (hd:o.dst=some d) (hN:d < N)
    (h:AT P N E ops L ((d,un) :: F) H Q):AT P N E ops ((i,none) :: L) F H Q:=fun S ρ a w hR=>by
 refine wpT_r ho fun K hK=>?_
 rw[if_neg (by simp[Region.wanted,hg,zl3 hR hj ht hb])]
 rw[hd]
 exact hK _ (h S ρ _ w (hR.put hN (.c (.s _))))
end
section
variable {P:Program} {N:Nat} {E:Env} {F:Fm} {H:List OB} {o:Oper} {Q:Exit→Fm→List OB→Prop} {ops:Array Oper} {rest:List Oper}
def gd (ops:Array Oper) (o:Oper) (F:Fm):Option Bool:=
 match o.guard with
 | none=>none
 | some (i,b)=>match ops[i]? with
  | none=>none
  | some oi=>match oi.dst with
   | none=>none
   | some t=>match F.lookup t with
    | some (.c (.s (.bool b')))=>some (b' == b)
    | some (.c (.s (.tuple a)))=>if a.size=0 then some false else none
    | _=>none
theorem zd8 {c:Bool} (h:gd ops o F=some c):∃i b oi t,o.guard=some (i,b)∧ops[i]?=some oi∧oi.dst=some t∧((∃b',F.lookup t=some (.c (.s (.bool b')))∧(b' == b)=c)∨(F.lookup t=some un∧c=false)):=by
 unfold gd at h
 cases hg:o.guard with
 | none=>rw[hg] at h;cases h
 | some ib=>
  obtain⟨i,b⟩:=ib
  rw[hg] at h;dsimp only at h
  cases hi:ops[i]? with
  | none=>rw[hi] at h;cases h
  | some oi=>
   rw[hi] at h;dsimp only at h
   cases ht:oi.dst with
   | none=>rw[ht] at h;cases h
   | some t=>
    rw[ht] at h;dsimp only at h
    refine⟨i,b,oi,t,rfl,hi,ht, ?_⟩
    split at h
    ·rename_i b' hb;exact .inl ⟨b',hb,Option.some.inj h⟩
    ·rename_i a hb
     split at h
     ·rename_i h0
      obtain rfl:a=#[]:=Array.eq_empty_of_size_eq_zero h0
      exact .inr ⟨hb,(Option.some.inj h).symm⟩
     ·cases h
    ·cases h
theorem G1 (hg:gd ops o F=some true) (h:AL P N E ops ({ o with guard:=none } :: rest) F H Q):AL P N E ops (o :: rest) F H Q:=by
 obtain⟨i,b,oi,t,h1,h2,h3,⟨b',h4,h5⟩|⟨_,h5⟩⟩:=zd8 hg
 ·obtain rfl:b'=b:=by simpa using h5
  exact al_gon h1 h2 h3 h4 h
 ·cases h5
theorem G2 {d:Nat} (hg:gd ops o F=some false) (hd:o.dst=some d) (hN:d < N) (h:AL P N E ops rest ((d,un) :: F) H Q):AL P N E ops (o :: rest) F H Q:=by
 obtain⟨i,b,oi,t,h1,h2,h3,⟨b',h4,h5⟩|⟨h4,_⟩⟩:=zd8 hg
 ·exact al_skip h1 h2 h3 h4 h5 hd hN h
 ·exact al_skipu h1 h2 h3 h4 hd hN h
end
section
variable {P:Program} {N:Nat} {E:Env} {F:Fm} {H:List OB} {o:Oper} {Q:Exit→Fm→List OB→Prop} {ops:Array Oper} {rest:List Oper}
theorem G3 {i d:Nat} {v:AV} {L:List (Nat × Option (List Nat))} (ho:ops[i]?=some o) (hg:gd ops o F=some true) (hd:o.dst=some d) (hN:d < N) (hr:Rd P N E o F H v) (k:AT P N E ops L ((d,v) :: F) H Q):AT P N E ops ((i,none) :: L) F H Q:=by
 obtain⟨j,b,oj,t,h1,h2,h3,⟨b',h4,h5⟩|⟨_,h5⟩⟩:=zd8 hg
 ·obtain rfl:b'=b:=by simpa using h5
  exact at_gon ho h1 h2 h3 h4 hd hN hr k
 ·cases h5
theorem G4 {i d:Nat} {L:List (Nat × Option (List Nat))} (ho:ops[i]?=some o) (hg:gd ops o F=some false) (hd:o.dst=some d) (hN:d < N) (k:AT P N E ops L ((d,un) :: F) H Q):AT P N E ops ((i,none) :: L) F H Q:=by
 obtain⟨j,b,oj,t,h1,h2,h3,⟨b',h4,h5⟩|⟨h4,_⟩⟩:=zd8 hg
 ·exact at_skip ho h1 h2 h3 h4 h5 hd hN k
 ·exact at_skipu ho h1 h2 h3 h4 hd hN k
def fldC (off:Nat):Option AV→Option AV
 | some (.p b k j)=>some (.p b k (j+off))
 | some (.q v k sz row j)=>some (.q v k sz row (j+off))
 | some (.c (.p v row))=>some (.q (ptS v) 0 1 row off)
 | some (.c (.s (.pointer (some ⟨B,j,none⟩))))=>some (.c (.s (.pointer (some ⟨B,j+off,none⟩))))
 | _=>none
theorem rd_fx {t:TypeId} {x:Operand} {f off:Nat} {v:AV} (ho:o.op = .fieldAddr t x f) (ht:fieldOff P t f=some off) (h:fldC off (ev F x)=some v):Rd P N E o F H v:=by
 unfold fldC at h
 split at h
 ·rename_i b k j hx;injection h with h;subst h;exact rd_field ho hx ht
 ·rename_i w k sz row j hx;injection h with h;subst h;exact zL10 ho hx ht
 ·rename_i w row hx;injection h with h;subst h;exact zE9 ho hx ht
 ·rename_i B j hx;injection h with h;subst h;exact zK10 ho hx ht
 ·cases h
def lenC:Option AV→Option Nat
 | some (.o _ _ n _)=>some n
 | some (.c (.r _ rows))=>some rows.length
 | some (.c (.s (.slice _ n _)))=>some n
 | _=>none
theorem rd_lx {t e:TypeId} {sz n:Nat} {x:Operand} (ho:o.op = .call { callee:=.builtin .len,args:=#[x],argTypes:=#[t] }) (ht:elemSz P t=some (e,sz)) (h:lenC (ev F x)=some n):Rd P N E o F H (.c (.s (.int .i64 n))):=by
 unfold lenC at h
 split at h
 ·rename_i b k m c hx;injection h with h;subst h;exact rd_len ho ht hx
 ·rename_i v rows hx;injection h with h;subst h;exact rd_lenr ho ht hx
 ·rename_i A m c hx;injection h with h;subst h
  exact fun S ρ a w hR=>by
   obtain⟨h1,h2⟩:=hR.ev hx
   refine⟨?_,.c (.s _)⟩
   simp[execOp,ho,resolve,invoke,builtin,h1,AV.den,CV.den,ze4 (zq ht).1]
 ·cases h
mutual
/-- Values without addresses of the call's own. -/
def AV.clo:AV→Bool
 | .c _=>true
 | .q ..=>true
 | .a l=>AV.cloL l
 | .t l=>AV.cloL l
 | .f _ l=>AV.cloL l
 | _=>false
def AV.cloL:List AV→Bool
 | []=>true
 | x :: l=>match x.clo with
  | true=>AV.cloL l
  | false=>false
end
mutual
theorem cvt_clo (g:AV→Value) (m:List (Option Nat)) (H:List OB) (fz:Bool):∀x:AV,x.clo=true→Cvt g m H fz x x
 | .c _,_=>.c rfl
 | .q ..,_=>.q
 | .a l,h=>.aL (zu5 g m H fz l (by rw[AV.clo] at h;exact h))
 | .t l,h=>.tL (zu5 g m H fz l (by rw[AV.clo] at h;exact h))
 | .f _ l,h=>.fL (zu5 g m H fz l (by rw[AV.clo] at h;exact h))
 | .p ..,h=>by simp[AV.clo] at h
 | .o ..,h=>by simp[AV.clo] at h
theorem zu5 (g:AV→Value) (m:List (Option Nat)) (H:List OB) (fz:Bool):∀l:List AV,AV.cloL l=true→CvL g m H fz l l
 | [],_=>.nil
 | x :: l,h=>by
  rw[AV.cloL] at h
  cases hx:x.clo with
  | false=>rw[hx] at h;cases h
  | true=>
   rw[hx] at h
   exact .cons (cvt_clo g m H fz x hx) (zu5 g m H fz l h)
end
theorem C0 {g:AV→Value} {m:List (Option Nat)} {fz:Bool} {l:List AV} (h:AV.cloL l=true):CvL g m H fz l l:=zu5 g m H fz l h
end
def S1:=@aw_seq
def S2:=@aseq_n
def S3:=@aw_skip
def S4:=@aw_block
def S5:=@ablk_n
def S6:=@aseq_r
def S7:=@ablk_r
def S8:=@ablk_e
def S0:=@ablk_o
def SA:=@aseq_e
def SB:=@aw_ret
def SC:=@aw_exit
def CB:=@Cells.box
def CQ:=@Cells.q
def CA:=@Cells.arr
def K0:=@CvH.nil
def K1:=@CvH.box
def K2:=@CvH.arr
def K3:=@CvH.new
def L0:=@CvL.nil
def L1:=@CvL.cons
def W0:=@CvF.nil
def W1:=@CvF.cons
def V1:=@Cvt.c
def V2:=@Cvt.p
def V3:=@Cvt.o
def V4:=@Cvt.q
def V5:=@Cvt.nil
def V6:=@Cvt.frz
def V7:=@Cvt.aL
def V8:=@Cvt.tL
def V9:=@Cvt.fL
theorem nsl:(∀m h (l:List AV),AV.emb m h (.a l) = .a (AV.embL m h l))∧(∀m h (l:List AV),AV.emb m h (.t l) = .t (AV.embL m h l))∧(∀m h fn (l:List AV),AV.emb m h (.f fn l) = .f fn (AV.embL m h l))∧(∀m h x,AV.emb m h (.c x) = .c x)∧(∀m h v k sz row j,AV.emb m h (.q v k sz row j) = .q v k sz row j)∧(∀m h b k j,AV.emb m h (.p b k j) = .p (embB m h b) k j)∧(∀m h b k n z,AV.emb m h (.o b k n z) = .o (embB m h b) k n z) ∧
    (∀m h,AV.embL m h [] = [])∧(∀m h x (l:List AV),AV.embL m h (x :: l)=x.emb m h :: AV.embL m h l)∧(∀m h l,OB.emb m h (.box l) = .box (AV.embL m h l))∧(∀m h e sz c r,OB.emb m h (.arr e sz c r) = .arr e sz c r)∧(∀m h,OB.emb m h .dead = .dead)∧(∀m h x v,OB.emb m h (.eqv x v) = .eqv (x.emb m h) v)∧(∀m h b,embB m h b=if b < m.length then m.getD b 0 else h+(b - m.length)) ∧
    (∀{α β:Type} (f:α→β) (a:α) (l:List α),(a :: l).map f=f a :: l.map f)∧(∀{α β:Type} (f:α→β),[].map f = [])∧(∀{α:Type} (l:List α),[]++l=l)∧(∀{α:Type} (a:α) (l l':List α),(a :: l)++l'=a :: (l++l'))∧(∀{α:Type} (l:List α),l++[]=l) ∧
    (∀{α:Type} (a:α) (l:List α),(a :: l).length=l.length+1)∧(∀{α:Type},([]:List α).length=0)∧(∀{α:Type} (a b:α),(if True then a else b)=a)∧(∀{α:Type} (a b:α),(if False then a else b)=b)∧(∀{α:Type} (a:α) (l:List α) (d:α),(a :: l).getD 0 d=a) ∧
    (∀n:Nat,0+n=n)∧(∀n:Nat,n+0=n)∧(∀n:Nat,n - 0=n)∧(∀n:Nat,(n < n)=False)∧(∀n:Nat,(n < 0)=False)∧((0 < 1)=True)∧(∀n:Nat,(n < n+1)=True):=by
 refine⟨?_, ?_, ?_, ?_, ?_, ?_, ?_, ?_, ?_, ?_, ?_, ?_, ?_, ?_, ?_, ?_, ?_, ?_, ?_, ?_, ?_, ?_, ?_, ?_, ?_, ?_, ?_, ?_, ?_, ?_, ?_⟩ <;> intros <;> first|rfl|simp
theorem NST {p q p' q' A:Prop} (hF:p) (hH:q) (h:p'→q'→A) (h1:p→p':=by(intro h;(try simp only[nsl,Nat.reduceAdd,Nat.reduceLT,Nat.reduceSub] at h);exact h)) (h2:q→q':=by(intro h;(try simp only[nsl,Nat.reduceAdd,Nat.reduceLT,Nat.reduceSub] at h);exact h)):A:=h (h1 hF) (h2 hH)
theorem NSU {p q p' q' A:Prop} (hF:p) (hH:q) (h:p'→q'→A) (h1:p→p':=by(intro h;(try simp only[List.set_cons_zero,List.set_cons_succ,updH,posOf,lentArr,killF,killO,killV,AV.has,AV.hasL,AV.emb,AV.embL,OB.emb,embB,List.filter_cons,List.filter_nil,List.getElem?_cons_zero,List.getElem?_cons_succ,List.getD_cons_zero,List.getD_cons_succ,List.drop_succ_cons,List.drop_zero,List.drop_nil,List.contains_cons,List.contains_nil,Nat.reduceBEq,Nat.reduceEqDiff,beq_self_eq_true,Bool.or_false,Bool.false_or,Bool.or_true,Bool.true_or,Bool.false_eq_true,Option.map_some,Option.map_none,List.map_cons,List.map_nil,List.cons_append,List.nil_append,List.append_nil,List.length_cons,List.length_nil,Nat.reduceAdd,Nat.reduceLT,Nat.reduceSub,if_true,if_false,Nat.zero_add,Nat.add_zero,Nat.sub_zero,Nat.lt_irrefl,Nat.not_lt_zero,Nat.zero_lt_one,Nat.lt_add_one] at h);exact h)) (h2:q→q':=by(intro h;(try simp only[List.set_cons_zero,List.set_cons_succ,updH,posOf,lentArr,killF,killO,killV,AV.has,AV.hasL,AV.emb,AV.embL,OB.emb,embB,List.filter_cons,List.filter_nil,List.getElem?_cons_zero,List.getElem?_cons_succ,List.getD_cons_zero,List.getD_cons_succ,List.drop_succ_cons,List.drop_zero,List.drop_nil,List.contains_cons,List.contains_nil,Nat.reduceBEq,Nat.reduceEqDiff,beq_self_eq_true,Bool.or_false,Bool.false_or,Bool.or_true,Bool.true_or,Bool.false_eq_true,Option.map_some,Option.map_none,List.map_cons,List.map_nil,List.cons_append,List.nil_append,List.append_nil,List.length_cons,List.length_nil,Nat.reduceAdd,Nat.reduceLT,Nat.reduceSub,if_true,if_false,Nat.zero_add,Nat.add_zero,Nat.sub_zero,Nat.lt_irrefl,Nat.not_lt_zero,Nat.zero_lt_one,Nat.lt_add_one] at h);exact h)):A:=h (h1 hF) (h2 hH)
end
section
open Go Go.RowKit
section
variable {P:Program} {N:Nat} {E:Env} {F:Fm} {H:List OB} {o:Oper} {Q:Exit→Fm→List OB→Prop} {ops:Array Oper} {rest:List Oper}
theorem ZA {d:Nat} {x:AV} (hr:Rd P N E o F H x) (h:AL P N E ops rest ((d,x) :: F) H Q) (hg:o.guard=none:=by exact rfl) (hd:o.dst=some d:=by exact rfl) (hN:d < N:=by decide):AL P N E ops (o :: rest) F H Q:=zK11 hg hd hN hr h
theorem ZT {i d:Nat} {x:AV} {L:List (Nat × Option (List Nat))} (ho:ops[i]?=some o) (hr:Rd P N E o F H x) (h:AT P N E ops L ((d,x) :: F) H Q) (hg:o.guard=none:=by exact rfl) (hd:o.dst=some d:=by exact rfl) (hN:d < N:=by decide):AT P N E ops ((i,none) :: L) F H Q:=at_rd ho hg hd hN hr h
theorem ZP {d:Nat} {x:AV} (hr:Rd P N E { o with guard:=none } F H x) (h:AL P N E ops rest ((d,x) :: F) H Q) (hg:gd ops o F=some true:=by exact rfl) (hd:o.dst=some d:=by exact rfl) (hN:d < N:=by decide):AL P N E ops (o :: rest) F H Q:=G1 hg (zK11 (o:={ o with guard:=none }) rfl hd hN hr h)
theorem ZS {d:Nat} (h:AL P N E ops rest ((d,un) :: F) H Q) (hg:gd ops o F=some false:=by exact rfl) (hd:o.dst=some d:=by exact rfl) (hN:d < N:=by decide):AL P N E ops (o :: rest) F H Q:=G2 hg hd hN h
theorem ZR {G A:Prop} (h:G) (hs:G→A:=by(intro h;(repeat with_reducible first|apply S1|apply S2|apply S3|apply S4|apply S5|apply S6|apply S7|apply S8|refine S0 rfl ?_|apply SA|apply SB|apply SC);exact ze h)):A:=hs h
theorem ZZ {G A:Prop} (h:G) (hs:G→A:=by(intro h;(repeat with_reducible first|apply S1|apply S2|apply S3|apply S4|apply S5|apply S6|apply S7|apply S8|refine S0 rfl ?_|apply SA|apply SB|apply SC);exact h)):A:=hs h
theorem ZY {G A:Prop} (h:G) (hs:G→A:=by(intro h;(first|(with_reducible first|apply S1|apply S2|apply S3|apply S4|apply S5|apply S6|apply S7|apply S8|refine S0 rfl ?_|apply SA|apply SB|apply SC)|refine zd rfl ?_|refine za rfl ?_);(repeat with_reducible first|apply S1|apply S2|apply S3|apply S4|apply S5|apply S6|apply S7|apply S8|refine S0 rfl ?_|apply SA|apply SB|apply SC);exact h)):A:=hs h
end
section
variable {P:Program} {N:Nat} {E:Env} {F:Fm} {H:List OB} {o:Oper} {t e yt:TypeId} {x y:Operand} {sz:Nat}
theorem ZL {v z:AV} {cs cs':List AV} (ht:ldk P t=some none) (ho:o.op = .load t x:=by exact rfl) (hx:ev F x=some v:=by exact rfl) (hc:Cells H v cs:=by first|exact CB rfl|exact CQ|exact CA rfl (by first|assumption|(rw[Nat.zero_add];assumption))) (hn:cs=z :: cs':=by(try simp only[nm,putL,Nat.reduceAdd,cellsOf,cvOf]) <;> rfl):Rd P N E o F H z:=zf5 ho ht hx hc hn
theorem ZK {v:AV} {cs cs':List AV} {k:Nat} (ht:ldk P t=some (some k)) (ho:o.op = .load t x:=by exact rfl) (hx:ev F x=some v:=by exact rfl) (hc:Cells H v cs:=by first|exact CB rfl|exact CQ|exact CA rfl (by first|assumption|(rw[Nat.zero_add];assumption))) (hn:cs.take k=cs':=by(try simp only[nm,putL,Nat.reduceAdd,cellsOf,cvOf]) <;> rfl) (hl:k≤cs.length:=by simp):Rd P N E o F H (.a cs'):=zk6 ho ht hx hc hn hl
theorem ZX {f off:Nat} {v:AV} (ht:fieldOff P t f=some off) (ho:o.op = .fieldAddr t x f:=by exact rfl) (h:fldC off (ev F x)=some v:=by exact rfl):Rd P N E o F H v:=rd_fx ho ht h
theorem ZI {ix:Operand} {b k n c i cap:Nat} {kd:IntKind} {z:Int} {rows:List (List CV)} (ht:elemSz P t=some (e,sz)) (ho:o.op = .indexAddr t x ix:=by exact rfl) (hx:ev F x=some (.o b k n c):=by exact rfl) (hH:H[b]?=some (.arr e sz cap rows):=by exact rfl) (hix:ev F ix=some (.c (.s (.int kd z))):=by exact rfl) (hz:z=i:=by first|rfl|omega) (hi:i < n:=by omega):Rd P N E o F H (.p b (k+i) 0):=zP4 ho ht hx hH hix hz hi
theorem ZJ {ix:Operand} {i:Nat} {kd:IntKind} {z:Int} {v:Value} {rows:List (List CV)} {row:List CV} (ht:elemSz P t=some (e,sz)) (ho:o.op = .indexAddr t x ix:=by exact rfl) (hx:ev F x=some (.c (.r v rows)):=by exact rfl) (hix:ev F ix=some (.c (.s (.int kd z))):=by exact rfl) (hz:z=i:=by first|rfl|omega) (hi:rows[i]?=some row:=by assumption) (hl:row.length=sz:=by exact rfl):Rd P N E o F H (.q v i sz row 0):=zh3 ho ht hx hix hz hi hl
theorem Zlss {kd:IntKind} {m n:Int} {b:Bool} (ho:o.op = .binOp .lss t x y yt:=by exact rfl) (hx:ev F x=some (.c (.s (.int kd m))):=by exact rfl) (hy:ev F y=some (.c (.s (.int kd n))):=by exact rfl) (hb:decide (m < n)=b:=by first|exact decide_eq_true (by omega)|exact decide_eq_false (by omega)|exact rfl):Rd P N E o F H (.c (.s (.bool b))):=by subst hb;exact rd_lss ho hx hy
theorem Zleq {kd:IntKind} {m n:Int} {b:Bool} (ho:o.op = .binOp .leq t x y yt:=by exact rfl) (hx:ev F x=some (.c (.s (.int kd m))):=by exact rfl) (hy:ev F y=some (.c (.s (.int kd n))):=by exact rfl) (hb:decide (m≤n)=b:=by first|exact decide_eq_true (by omega)|exact decide_eq_false (by omega)|exact rfl):Rd P N E o F H (.c (.s (.bool b))):=by subst hb;exact rd_leq ho hx hy
theorem Zgtr {kd:IntKind} {m n:Int} {b:Bool} (ho:o.op = .binOp .gtr t x y yt:=by exact rfl) (hx:ev F x=some (.c (.s (.int kd m))):=by exact rfl) (hy:ev F y=some (.c (.s (.int kd n))):=by exact rfl) (hb:decide (n < m)=b:=by first|exact decide_eq_true (by omega)|exact decide_eq_false (by omega)|exact rfl):Rd P N E o F H (.c (.s (.bool b))):=by subst hb;exact rd_gtr ho hx hy
theorem Zgeq {kd:IntKind} {m n:Int} {b:Bool} (ho:o.op = .binOp .geq t x y yt:=by exact rfl) (hx:ev F x=some (.c (.s (.int kd m))):=by exact rfl) (hy:ev F y=some (.c (.s (.int kd n))):=by exact rfl) (hb:decide (n≤m)=b:=by first|exact decide_eq_true (by omega)|exact decide_eq_false (by omega)|exact rfl):Rd P N E o F H (.c (.s (.bool b))):=by subst hb;exact zJ10 ho hx hy
theorem Zeql {kd:IntKind} {m n:Int} {b:Bool} (ho:o.op = .binOp .eql t x y yt:=by exact rfl) (hx:ev F x=some (.c (.s (.int kd m))):=by exact rfl) (hy:ev F y=some (.c (.s (.int kd n))):=by exact rfl) (hb:decide (m=n)=b:=by first|exact decide_eq_true (by omega)|exact decide_eq_false (by omega)|exact rfl):Rd P N E o F H (.c (.s (.bool b))):=by subst hb;exact rd_eql ho hx hy
theorem Zneq {kd:IntKind} {m n:Int} {b:Bool} (ho:o.op = .binOp .neq t x y yt:=by exact rfl) (hx:ev F x=some (.c (.s (.int kd m))):=by exact rfl) (hy:ev F y=some (.c (.s (.int kd n))):=by exact rfl) (hb:decide (m≠n)=b:=by first|exact decide_eq_true (by omega)|exact decide_eq_false (by omega)|exact rfl):Rd P N E o F H (.c (.s (.bool b))):=by subst hb;exact rd_neq ho hx hy
theorem Zwr {z:Int} (h:-9223372036854775808≤z∧z≤9223372036854775807):wrap64 z=z:=IntWalk.wrap64_in z h
theorem Zadd {m n r:Int} (ho:o.op = .binOp .add t x y yt:=by exact rfl) (hx:ev F x=some (.c (.s (.int .i64 m))):=by exact rfl) (hy:ev F y=some (.c (.s (.int .i64 n))):=by exact rfl) (hr:wrap64 (m+n)=r:=by first|exact Zwr (by omega)|exact rfl):Rd P N E o F H (.c (.s (.int .i64 r))):=by subst hr;exact rd_add ho hx hy
theorem Zsub {m n r:Int} (ho:o.op = .binOp .sub t x y yt:=by exact rfl) (hx:ev F x=some (.c (.s (.int .i64 m))):=by exact rfl) (hy:ev F y=some (.c (.s (.int .i64 n))):=by exact rfl) (hr:wrap64 (m - n)=r:=by first|exact Zwr (by omega)|exact rfl):Rd P N E o F H (.c (.s (.int .i64 r))):=by subst hr;exact rd_sub ho hx hy
theorem Zmul {m n r:Int} (ho:o.op = .binOp .mul t x y yt:=by exact rfl) (hx:ev F x=some (.c (.s (.int .i64 m))):=by exact rfl) (hy:ev F y=some (.c (.s (.int .i64 n))):=by exact rfl) (hr:wrap64 (m*n)=r:=by first|exact Zwr (by omega)|exact rfl):Rd P N E o F H (.c (.s (.int .i64 r))):=by subst hr;exact rd_mul ho hx hy
theorem Zquo {m n:Int} (ho:o.op = .binOp .quo t x y yt:=by exact rfl) (hx:ev F x=some (.c (.s (.int .i64 m))):=by exact rfl) (hy:ev F y=some (.c (.s (.int .i64 n))):=by exact rfl) (h:0≤m∧m≤9223372036854775807∧1≤n:=by omega):Rd P N E o F H (.c (.s (.int .i64 (m / n)))):=rd_quon ho hx hy h
theorem Zqut {m n:Int} (ho:o.op = .binOp .quo t x y yt:=by exact rfl) (hx:ev F x=some (.c (.s (.int .i64 m))):=by exact rfl) (hy:ev F y=some (.c (.s (.int .i64 n))):=by exact rfl) (h:-9223372036854775807≤m∧m≤9223372036854775807∧1≤n:=by omega):Rd P N E o F H (.c (.s (.int .i64 (m.tdiv n)))):=by
 have h1:=zG10 (P:=P) (N:=N) (E:=E) (H:=H) ho hx hy (by omega)
 have hq:(m.tdiv n).natAbs≤m.natAbs:=Int.natAbs_tdiv_le_natAbs m n
 rwa [show wrap64 (m.tdiv n)=m.tdiv n from IntWalk.wrap64_in _ (by constructor <;> omega)] at h1
theorem Zquw {m n:Int} (ho:o.op = .binOp .quo t x y yt:=by exact rfl) (hx:ev F x=some (.c (.s (.int .i64 m))):=by exact rfl) (hy:ev F y=some (.c (.s (.int .i64 n))):=by exact rfl) (h:n≠0:=by omega):Rd P N E o F H (.c (.s (.int .i64 (wrap64 (m.tdiv n))))):=zG10 ho hx hy h
theorem Zrem {m n:Int} (ho:o.op = .binOp .rem t x y yt:=by exact rfl) (hx:ev F x=some (.c (.s (.int .i64 m))):=by exact rfl) (hy:ev F y=some (.c (.s (.int .i64 n))):=by exact rfl) (h:0≤m∧1≤n:=by omega):Rd P N E o F H (.c (.s (.int .i64 (m % n)))):=rd_remn ho hx hy h
theorem Zrew {m n:Int} (ho:o.op = .binOp .rem t x y yt:=by exact rfl) (hx:ev F x=some (.c (.s (.int .i64 m))):=by exact rfl) (hy:ev F y=some (.c (.s (.int .i64 n))):=by exact rfl) (h:n≠0:=by omega):Rd P N E o F H (.c (.s (.int .i64 (m.tmod n)))):=rd_rem ho hx hy h
theorem Zbc {i off k:Nat} {v:AV} {pl:List (Nat × Nat)} {ps:List (Nat × Operand)} {l l1 l2:List AV} (h:ev F x=some v:=by exact rfl) (hp:pl[i]?=some (off,k):=by exact rfl) (hk:(cellsOf v).length=k:=by exact rfl) (hl:off+k≤l.length:=by simp) (h1:(cellsOf v).all AV.one=true:=by exact rfl) (he:putL l off (cellsOf v)=l1:=by(try simp only[nm,putL,Nat.reduceAdd,cellsOf,cvOf]) <;> rfl) (z:BParts F pl ps l1 l2):BParts F pl ((i,x) :: ps) l l2:=.cons h hp hk hl h1 he z
theorem Zbox {d b:Nat} {v:AV} {l:List AV} {H2:List OB} (ho:o.op = .box t x:=by exact rfl) (hd:o.dst=some d:=by exact rfl) (hN:d < N:=by decide) (hx:ev F x=some v:=by exact rfl) (hl:cellsOf v=l:=by(try simp only[nm,putL,Nat.reduceAdd,cellsOf,cvOf]) <;> rfl) (h1:l.all AV.one=true:=by exact rfl) (hb:H.length=b:=by(try simp only[nm,putL,Nat.reduceAdd,cellsOf,cvOf]) <;> rfl) (hH:H++[.box l]=H2:=by(try simp only[nm,putL,Nat.reduceAdd,cellsOf,cvOf]) <;> rfl):Ef P N E o F H fun F' H'=>F'=(d,.p b 0 0) :: F∧H'=H2:=ef_boxn ho hd hN hx hl h1 hb hH
theorem Zapp {d b k cap j:Nat} {v:AV} {rows news:List (List CV)} {F2 H2:(AV→Value)→Nat→_} (hE:ElemTy P t e sz) (ho:o.op = .call { callee:=.builtin .append,args:=#[x,y],argTypes:=#[t,t] }:=by exact rfl) (hd:o.dst=some d:=by exact rfl) (hN:d < N:=by decide) (hs:ev F x=some (.o b 0 k cap):=by exact rfl) (hH:H[b]?=some (.arr e sz cap rows):=by exact rfl) (hn:k=rows.length:=by first|rfl|simp|(simp;omega)) (hx:ev F y=some v:=by exact rfl) (hsrc:Src H sz v news:=by first|exact Src.own rfl (by(try simp only[nm,putL,Nat.reduceAdd,cellsOf,cvOf]) <;> rfl) (by first|rfl|simp|(simp;omega))|exact Src.ro (by simp) (by simp[CV.one,Value.oneCell'])) (hj:news.length=j:=by(try simp only[nm,putL,Nat.reduceAdd,cellsOf,cvOf]) <;> rfl) (hle:k+j≤1073741824:=by omega) (hF2:∀g c2,killF g [b] F=F2 g c2:=by exact(fun _ _=>rfl)) (hH2:∀g c2,(H.map (killO g [b])).set b (.arr e sz c2 (rows++news))=H2 g c2:=by intro g c2;simp only[List.map_cons,List.map_nil,killO,killV,AV.has,AV.hasL,List.contains_cons,List.contains_nil,Nat.reduceBEq,Bool.or_false,Bool.false_or,Bool.false_eq_true,beq_self_eq_true,if_false,if_true,List.set_cons_zero,List.set_cons_succ,List.nil_append];rfl) (hpin:(∃q,E.H0.length=q∧Nat.ble q b=true)∨E.pin=false:=by first|exact Or.inl ⟨_,by assumption,rfl⟩|exact Or.inr (by assumption)):Ef P N E o F H fun F' H'=>∃g c2,k+j≤c2∧F'=(d,.o b 0 (k+j) c2) :: F2 g c2∧H'=H2 g c2:=ef_appn ho hd hN hE hs hH hn hx hsrc hj hle hF2 hH2 hpin
theorem ZCH {p:Prop} (h:p:=by intro _g;(repeat first|exact K0|apply K1 rfl|apply K2 rfl rfl|apply K2 rfl (by simp)|apply K3|apply CvH.oth rfl (.map rfl)|apply CvH.oth rfl (.pool rfl)|apply CvH.oth rfl (.itr rfl rfl)|apply CvH.oth rfl (.sit rfl)|apply CvH.oth rfl (.bts rfl)|apply CvH.oth rfl .dead|refine CvH.oth rfl (.boxt ?_) ?_|exact CvAL.nil|refine CvAL.cons ?_ ?_|exact CvA.c rfl|exact CvA.p rfl|exact CvA.o rfl rfl|exact CvA.nil rfl|exact L0|apply L1|exact V1 rfl|exact V2 rfl|exact V3 rfl rfl|exact V4|exact Cvt.mp rfl|exact V5 rfl|exact V3 rfl (by first|(simp;omega)|simp)|exact V1 (by first|(simp;omega)|simp)|exact V6 rfl rfl (by first|rfl|simp) (by simp) rfl|apply V7|apply V8|exact V9 (C0 (by assumption))|apply V9);fail_if_success focus skip):p:=h
theorem ZCF {p:Prop} (h:p:=by intro _g;(repeat first|exact W0|apply W1 rfl|exact L0|apply L1|exact V1 rfl|exact V2 rfl|exact V3 rfl rfl|exact V4|exact Cvt.mp rfl|exact V5 rfl|exact V3 rfl (by first|(simp;omega)|simp)|exact V1 (by first|(simp;omega)|simp)|exact V6 rfl rfl (by first|rfl|simp) (by simp) rfl|apply V7|apply V8|exact V9 (C0 (by assumption))|apply V9);fail_if_success focus skip):p:=h
def okN (n:Nat) (m:List (Option Nat)):Bool:=(List.range n).all fun i=>m[i]? == some (some i)
theorem ZNK {n:Nat} {m:List (Option Nat)} (h:okN n m=true):∀i,i < n→m[i]?=some (some i):=fun i hi=>by
 have:=List.all_eq_true.1 h i (List.mem_range.2 hi)
 simpa using this
theorem ZNL {k n:Nat} {m:List (Option Nat)} (hE:k=n) (h:okN n m=true:=by exact rfl):∀i,i < k→m[i]?=some (some i):=fun i hi=>ZNK h i (hE▸hi)
end
section
variable {P:Program} {N:Nat} {E:Env} {F:Fm} {H:List OB} {o:Oper}
theorem wkg {K:Fm→List OB→Prop} (m:List (Option Nat)) (F':(AV→Value)→Fm) (H':(AV→Value)→List OB) (h:∀g,K (F' g) (H' g)) (hm:(m.filterMap id).Nodup:=by decide) (hl:∀i,i < E.H0.length→m[i]?=some (some i):=by exact ZNL (by assumption)) (hF:∀g,CvF g m H true F (F' g):=by exact ZCF) (hH:∀g,CvH g m H true m (H' g):=by exact ZCH):Wk N E F H K:=zf1 m F' H' hm hl hF hH h
theorem arg1 {fn:Func} {nl r:Nat} {Qr:AV→List OB→Prop} {z:AV} {v:CV} (m:List (Option Nat)) (H':List OB) (hr:fn.results=#[.tmp r]:=by exact rfl) (h:F.lookup r=some z:=by exact rfl) (hz:z = .c v:=by exact rfl) (hm:(m.filterMap id).Nodup:=by decide) (hl:∀i,i < nl→m[i]?=some (some i):=by exact ZNK rfl) (hH:∀g,CvH g m H true m H':=by exact ZCH) (q:Qr (.c v) H'):ARet P fn nl Qr .ret F H:=zP2 m H' hr h hz hm hl hH q
theorem arz {fn:Func} {r:Nat} {Qr:AV→List OB→Prop} {z:AV} {v:CV} (hr:fn.results=#[.tmp r]:=by exact rfl) (h:F.lookup r=some z:=by exact rfl) (hz:z = .c v:=by exact rfl) (q:Qr (.c v) []):ARet P fn 0 Qr .ret F H:=zP2 [] [] hr h hz (by decide) (ZNK rfl) (fun _=>.nil) q
theorem efk {f:FuncId} {args:Array Operand} {tys:Array TypeId} {d:Nat} {vs:List AV} {us:(AV→Value)→List AV} {Qc:(AV→Value)→AV→List OB→Prop} (ho:o.op = .call { callee:=.value (.func f),args:=args,argTypes:=tys }:=by exact rfl) (hd:o.dst=some d:=by exact rfl) (hN:d < N:=by decide) (hf:okFn P f=true:=by kernel_rfl) (hargs:evL F args.toList=some vs:=by exact rfl) (hcv:∀g,CvL g [] H false vs (us g):=by exact fun _=>C0 rfl) (c:∀g,ACalls P f (us g) [] (Qc g)) :
    Ef P N E o F H fun F' H'=>∃g u Hr,Qc g u Hr∧F'=(d,u.emb [] H.length) :: F∧H'=H++Hr.map (OB.emb [] H.length):=zn false c ho .fn hd hN hf hargs hcv (by simp)
theorem efm {f:FuncId} {args:Array Operand} {tys:Array TypeId} {d:Nat} {vs:List AV} {us:(AV→Value)→List AV} {l0:List AV} {l0':(AV→Value)→List AV} {T:List OB} {Qc:(AV→Value)→AV→List OB→Prop} (ho:o.op = .call { callee:=.value (.func f),args:=args,argTypes:=tys }:=by exact rfl) (hd:o.dst=some d:=by exact rfl) (hN:d < N:=by decide) (hf:okFn P f=true:=by kernel_rfl) (hargs:evL F args.toList=some vs:=by exact rfl) (hH0:H = .box l0 :: T:=by exact rfl) (v:∀g,CvL g [some 0] H false vs (us g):=by exact fun _=>.cons (.p rfl) (.cons (.c rfl) .nil)) (hl0:∀g,CvL g [some 0] H false l0 (l0' g):=by exact fun _=>.cons (.c rfl) (.cons (.c rfl) .nil)) (c:∀g,ACalls P f (us g) [.box (l0' g)] (Qc g)) :
    Ef P N E o F H fun F' H'=>∃g u o0 Hr,Qc g u (o0 :: Hr)∧F'=(d,u.emb [0] H.length) :: F∧H'=o0.emb [0] H.length :: (T++Hr.map (OB.emb [0] H.length)):=zy1 false c ho .fn hd hN hf hargs hH0 v hl0 (by simp)
end
end
section
open Go Go.RowKit
structure Hid (p:Prop):Prop where
 out:p
section
variable {P:Program} {F:Fm} {H:List OB}
theorem zQ1 {fn:Func} {nl:Nat} {x:Exit} {Qr:AV→List OB→Prop} (m:List (Option Nat)) (H':(AV→Value)→List OB) (hx:x = .ret∨x = .normal) (hr:fn.results=#[]) (hm:(m.filterMap id).Nodup) (hl:∀i,i < nl→m[i]?=some (some i)) (hH:∀g,CvH g m H true m (H' g)) (hq:∀g,Qr (.t []) (H' g)):ARet P fn nl Qr x F H:=
 ⟨hx,[],by rw[hr];exact .nil,m,fun _=>.t [],H',hm,hl,fun _=>.tL .nil,hH,hq⟩
end
end
end Go.Proofs.YtophoepbedlhjaaGreatDoor
