/- Closed calls: walks through maps of several entries, in any order, where each round leaves what was there. Conditions: none. -/
import Derived.Test.YtophoepbedlhjaaGreatDoorQbt
import Derived.Maps.RangeRun
set_option linter.unusedSimpArgs false
set_option linter.unusedVariables false
namespace Go.Proofs.YtophoepbedlhjaaGreatDoor
open Go Go.RowKit
set_option maxRecDepth 100000
def XT.sub {α:Type} (f:α→α→Bool):XT α→XT α→Bool
 | .nil,_=>true
 | .node l v r,.node l' v' r'=>(match v,v' with
  | none,_=>true
  | some x,some y=>f x y
  | some _,none=>false) && l.sub f l' && r.sub f r'
 | .node _ _ _,.nil=>false
theorem XT.sub_get {α:Type} {f:α→α→Bool} (hf:∀x y,f x y=true→x=y):∀(t u:XT α),t.sub f u=true→∀(k:Nat) (x:α),t.get k=some x→u.get k=some x
 | .nil,_,_,_,_,h=>(by simp[XT.get] at h)
 | .node ..,.nil,h,_,_,_=>(by cases h)
 | .node l v r,.node l' v' r',h,k,x,hk=>by
  simp only[XT.sub,Bool.and_eq_true] at h
  obtain⟨⟨h1,h2⟩,h3⟩:=h
  cases k with
  | zero=>
   simp only[XT.get] at hk ⊢
   subst hk
   cases v' with
   | none=>cases h1
   | some y=>rw[hf _ _ h1]
  | succ k=>
   simp only[XT.get] at hk ⊢
   split at hk
   ·rename_i hm;exact XT.sub_get hf l l' h2 _ _ hk
   ·rename_i hm;exact XT.sub_get hf r r' h3 _ _ hk
structure XMd where
 it:Nat
 d:Nat
 c:Nat
 x:Nat
 y:Nat
 e:Nat
 ops2:Array Oper
 rest:List Oper
 tail:Code
 bi:Nat
 m:Nat
 since:Nat
 last:Nat
 es:List (Value × XV)
 bs:List Nat
 ck:Nat
def xmrec (F:XFr) (H:XHp) (b:Code):Option XMd:=match b with
 | .seq (.region _ ops false) (.seq (.cond (.tmp c) .skip (.exit x)) (.block y (.seq (.region _ ops2 false) tail)))=>(match ops.toList,ops2.toList with
  | [o1,o2],o3 :: rest=>(match o1.guard,o1.dst,o1.op,o2.guard,o2.dst,o2.op with
   | none,some d,.next (.tmp it) false,none,some c',.extract (.tmp d') 0=>(match o3.guard,o3.dst,o3.op with
    | none,some e,.entry (.tmp it')=>bif Nat.beq c c' && Nat.beq d d' && Nat.beq it it' && !(Nat.beq it d) && !(Nat.beq it c) then (match F.get it with
     | some (.p bi 0)=>(match H.get bi with
      | some (.iter m since [] last)=>(match H.get m with
       | some (.map es bs ck)=>(match es with
        | _ :: _ :: _=>some ⟨it,d,c,x,y,e,ops2,rest,tail,bi,m,since,last,es,bs,ck⟩
        | _=>none)
       | _=>none)
      | _=>none)
     | _=>none) else none
    | _,_,_=>none)
   | _,_,_,_,_,_=>none)
  | _,_=>none)
 | _=>none
theorem zy8 {F:XFr} {H:XHp} {b:Code} {q:XMd} (h:xmrec F H b=some q):∃(id1 id2:Nat) (ops:Array Oper) (o1 o2 o3:Oper),b = .seq (.region id1 ops false) (.seq (.cond (.tmp q.c) .skip (.exit q.x)) (.block q.y (.seq (.region id2 q.ops2 false) q.tail)))∧ops.toList = [o1,o2]∧q.ops2.toList=o3 :: q.rest∧(o1.guard=none∧o1.dst=some q.d∧o1.op = .next (.tmp q.it) false)∧(o2.guard=none∧o2.dst=some q.c∧o2.op = .extract (.tmp q.d) 0)∧(o3.guard=none∧o3.dst=some q.e∧o3.op = .entry (.tmp q.it)) ∧
    (q.it≠q.d∧q.it≠q.c)∧F.get q.it=some (.p q.bi 0)∧H.get q.bi=some (.iter q.m q.since [] q.last)∧H.get q.m=some (.map q.es q.bs q.ck):=by
 unfold xmrec at h
 split at h
 ·rename_i id1 ops c x y id2 ops2 tail
  split at h
  ·rename_i o1 o2 o3 rest hl1 hl2
   split at h
   ·rename_i d it c' d' g1 g2 g3 g4 g5 g6
    split at h
    ·rename_i e it' g7 g8 g9
     cases hc:(Nat.beq c c' && Nat.beq d d' && Nat.beq it it' && !(Nat.beq it d) && !(Nat.beq it c)) with
     | false=>rw[hc] at h;cases h
     | true=>
      rw[hc] at h
      simp only[cond_true] at h
      simp only[Bool.and_eq_true] at hc
      obtain⟨⟨⟨⟨h1,h2⟩,h3⟩,h4⟩,h5⟩:=hc
      rw[Bool.not_eq_true'] at h4 h5
      obtain rfl:=Nat.eq_of_beq_eq_true h1
      obtain rfl:=Nat.eq_of_beq_eq_true h2
      obtain rfl:=Nat.eq_of_beq_eq_true h3
      split at h
      ·rename_i bi hbi
       split at h
       ·rename_i m since last hb
        split at h
        ·rename_i es bs ck hm
         split at h
         ·injection h with h
          subst h
          exact⟨id1,id2,ops,o1,o2,o3,rfl,hl1,hl2,⟨g1,g2,g3⟩,⟨g4,g5,g6⟩,⟨g7,g8,g9⟩,⟨Nat.ne_of_beq_eq_false h4,Nat.ne_of_beq_eq_false h5⟩,hbi,hb,hm⟩
         ·cases h
        ·cases h
       ·cases h
      ·cases h
    ·cases h
   ·cases h
  ·cases h
 ·cases h
def natnodup:List Nat→Bool
 | []=>true
 | x :: l=>!(l.any (Nat.beq x)) && natnodup l
theorem zm5:∀{l:List Nat},natnodup l=true→l.Nodup
 | [],_=>List.nodup_nil
 | x :: l,h=>by
  simp only[natnodup,Bool.and_eq_true,Bool.not_eq_true'] at h
  refine List.nodup_cons.2 ⟨fun hx=>?_,zm5 h.2⟩
  have:=List.any_eq_false.1 h.1 x hx
  exact this (Nat.beq_refl x)
abbrev XRun:=XFr→XHp→Nat→Option (Exit × XSt)
def xmround (P:Program) (N:Nat) (call:XCf) (yh:XYh) (run:XRun) (F:XFr) (H1:XHp) (k:Nat) (q:XMd) (p:Value × XV):Bool:=match xput N F q.d (.t [.v (.bool true),xnorm p.1,p.2]) with
 | some F1=>(match xput N F1 q.c (.v (.bool true)) with
  | some F2=>(match xput N F2 q.e (.t [xnorm p.1,p.2]) with
   | some F3=>(match xlist P N call yh q.ops2.toList q.rest F3 H1 k with
    | some (F4,H4,k4)=>(match run F4 H4 k4 with
     | some (.normal,F5,H5,_)=>F.sub XV.same F5 && H1.sub XB.same H5
     | some (.exit z,F5,H5,_)=>Nat.beq z q.y && F.sub XV.same F5 && H1.sub XB.same H5
     | _=>false)
    | none=>false)
   | none=>false)
  | none=>false)
 | none=>false
def xmchk (P:Program) (N:Nat) (call:XCf) (yh:XYh) (run:XRun) (n:Nat) (F:XFr) (H:XHp) (k:Nat) (q:XMd):Bool:=
 q.bs.all (fun b=>Nat.blt b q.since) && Nat.ble q.since q.last && Nat.ble q.since q.ck && natnodup q.bs && Nat.blt q.bs.length n && (match xset H q.bi .dead with
  | some H1=>q.es.all (xmround P N call yh run F H1 k q)
  | none=>false)
def xmend (N:Nat) (F:XFr) (H:XHp) (k:Nat) (q:XMd):Option (Exit × XSt):=match xput N F q.d (.t [.v (.bool false)]),xset H q.bi .dead with
 | some F1,some H1=>(match xput N F1 q.c (.v (.bool false)) with
  | some F2=>some (.exit q.x,F2,H1,k)
  | none=>none)
 | _,_=>none
def XPostE (rd:Bool) (N:Nat) (w0:XEnv) (ρ γ:Nat→Nat) (H:XHp) (F2:XFr) (H2:XHp):Act→World→Prop:=fun a' w'=>∃E ρ' γ',(Ext w0 E∧(rd=true→E=w0))∧XR N E ρ' γ' F2 H2 a' w'∧Agr H ρ γ H2 ρ' γ'
def pin (X:Nat→Option Obj) (B:Nat) (ob:Obj):Nat→Option Obj:=fun i=>if i=B then some ob else X i
def unpin (X:Nat→Option Obj) (B:Nat):Nat→Option Obj:=fun i=>if i=B then none else X i
theorem XT.has_sub {α β:Type} {H:XT α} {H':XT β} {γ γ':Nat→Nat} (h:∀b,(H.get b).isSome=true→(H'.get b).isSome=true∧γ' b=γ b) {b m:Nat} (hb:H.has γ b m):H'.has γ' b m:=⟨(h b hb.1).1,by rw[(h b hb.1).2];exact hb.2⟩
theorem XB.ok_mono {A B:Nat→Nat→Prop} (h:∀b m,A b m→B b m) {o:XB} (ho:o.ok A):o.ok B:=by
 cases o with
 | cells e cs=>rw[XB.ok,XV.okL_iff] at ho ⊢;exact fun x hx=>XV.ok_mono h x (ho x hx)
 | grown e sz cs=>rw[XB.ok,XV.okL_iff] at ho ⊢;exact fun x hx=>XV.ok_mono h x (ho x hx)
 | map es bs ck=>exact fun p hp=>XV.ok_mono h _ (ho p hp)
 | iter m s se l=>exact h _ _ ho
 | dead=>trivial
section
variable {P:Program} {N:Nat} {E:XEnv} {ρ γ:Nat→Nat} {F:XFr} {H Hs H1:XHp} {a:Act} {w w':World} {bi:Nat} {z:XB}
theorem XR.aside {ob:Obj} (hR:XR N E ρ γ F Hs a w) (hz:Hs.get bi=some z) (hl:z.live=true) (h1:∀i,H1.get i=if i=bi then some .dead else Hs.get i):XR N ⟨E.w,pin E.X (ρ bi) ob,E.own⟩ ρ γ F H1 a (zp w (ρ bi) ob):=by
 have hA:Agr Hs ρ γ H1 ρ γ:=fun b hb=>by
  refine⟨?_,rfl,rfl⟩
  rw[h1];split
  ·rfl
  ·exact hb
 have hX:=hR.hp.ap bi z hz hl
 obtain⟨hlo,hhi⟩:=hR.hp.hi bi z hz hl
 have hcase:∀i o,H1.get i=some o→o.live=true→i≠bi∧Hs.get i=some o:=fun i o hi lo=>by
  rw[h1] at hi
  split at hi
  ·injection hi with hi;subst hi;cases lo
  ·rename_i e;exact⟨e,hi⟩
 have hne:∀i o,i≠bi→Hs.get i=some o→o.live=true→ρ i≠ρ bi:=fun i o hi ho lo e=>hi (hR.hp.nd i bi o z ho hz lo hl e)
 have hp:XH ⟨E.w,pin E.X (ρ bi) ob,E.own⟩ ρ γ H1 (zp w (ρ bi) ob):=by
  refine⟨fun i j o o' hi hj lo lo' e=>?_,fun i o hi lo=>?_,fun i o hi lo=>?_,fun i o hi=>?_,⟨?_,fun B x hB=>?_⟩⟩
  ·exact hR.hp.nd i j o o' (hcase i o hi lo).2 (hcase j o' hj lo').2 lo lo' e
  ·have:=hR.hp.hi i o (hcase i o hi lo).2 lo
   exact⟨this.1,by simpa [zp] using this.2⟩
  ·obtain⟨g1,g2⟩:=hcase i o hi lo
   show pin E.X (ρ bi) ob (ρ i)=none
   unfold pin
   rw[if_neg (hne i o g1 g2 lo)]
   exact hR.hp.ap i o g2 lo
  ·rw[h1] at hi
   split at hi
   ·injection hi with hi;subst hi;exact⟨trivial,trivial⟩
   ·rename_i e
    obtain⟨g1,g2⟩:=hR.hp.bl i o hi
    refine⟨XB.ok_agr hA g1, ?_⟩
    cases hlo:o.live with
    | false=>cases o <;> first|trivial|(cases hlo)
    | true=>exact g2.keep g1 hA (by rw[zH,if_neg (fun h=>hne i o e hi hlo h.1)])
  ·have hst:=hR.hp.st
   refine⟨hst.os,hst.tape,hst.output,by simpa [zp] using hst.size,fun i hi hn=>?_,hst.drawn⟩
   rw[zH,if_neg (by rintro⟨e,_⟩;have h0:i < E.w.heap.size:=hi;omega)]
   exact hst.block i hi hn
  ·rw[zH]
   have hB':pin E.X (ρ bi) ob B=some x:=hB
   unfold pin at hB'
   split at hB'
   ·rename_i e
    rw[if_pos ⟨e,by omega⟩]
    exact hB'
   ·rename_i e
    rw[if_neg (fun h=>e h.1)]
    exact hR.hp.st.fx B x hB'
 refine⟨⟨hR.df.1,hR.df.2.1,fun D hD=>?_⟩,hR.sz,fun i x hi=>?_,hp⟩
 ·obtain⟨d1,d2⟩:=hR.df.2.2 D hD
  refine⟨?_,d2⟩
  show pin E.X (ρ bi) ob D=_
  unfold pin
  rw[if_neg (fun e=>by rw[e,hX] at d1;cases d1)]
  exact d1
 ·obtain⟨g1,g2⟩:=hR.fr i x hi
  exact⟨g1,hA.ok g2⟩
theorem XR.back {E2:XEnv} {ρ' γ':Nat→Nat} {F5:XFr} {H5 H':XHp} {a':Act} {ob:Obj} {z':XB} (hR:XR N E ρ γ F Hs a w) (hz:Hs.get bi=some z) (hl:z.live=true) (h1:∀i,H1.get i=if i=bi then some .dead else Hs.get i)
    (hR5:XR N E2 ρ' γ' F5 H5 a' w') (hw:E2.w=E.w) (hX:E2.X (ρ bi)=some ob) (hF:∀i x,F.get i=some x→F5.get i=some x) (hH:∀i x,H1.get i=some x→H5.get i=some x) (hA:Agr H1 ρ γ H5 ρ' γ') (h':∀i,H'.get i=if i=bi then some z' else Hs.get i) (hl':z'.live=true)
    (hok:z'.ok (Hs.has γ)) (how:w'.heap[ρ bi]?=some ob→XOwn w' ρ' γ' (ρ bi) (γ bi) z') (hnd:∀v,ob≠.deferred v):XR N ⟨E2.w,unpin E2.X (ρ bi),E2.own⟩ ρ' γ' F H' a' w':=by
 have hsome:∀b,(Hs.get b).isSome=true→(H1.get b).isSome=true:=fun b hb=>by
  rw[h1];split
  ·rfl
  ·exact hb
 have hag:∀b,(Hs.get b).isSome=true→ρ' b=ρ b∧γ' b=γ b:=fun b hb=>(hA b (hsome b hb)).2
 have hbi:(Hs.get bi).isSome=true:=by rw[hz];rfl
 have hmo:∀b m,Hs.has γ b m→H'.has γ' b m:=fun b m hb=>XT.has_sub (fun b hb=>⟨by
  rw[h'];split
  ·rfl
  ·exact hb,(hag b hb).2⟩) hb
 have hob:=hR5.hp.st.fx _ _ hX
 have hcase:∀i o,H'.get i=some o→(i=bi∧o=z')∨(i≠bi∧Hs.get i=some o∧H5.get i=some o):=fun i o hi=>by
  rw[h'] at hi
  split at hi
  ·rename_i e;injection hi with hi;exact .inl ⟨e,hi.symm⟩
  ·rename_i e;exact .inr ⟨e,hi,hH i o (by rw[h1,if_neg e];exact hi)⟩
 have hp:XH ⟨E2.w,unpin E2.X (ρ bi),E2.own⟩ ρ' γ' H' w':=by
  refine⟨fun i j o o' hi hj lo lo' e=>?_,fun i o hi lo=>?_,fun i o hi lo=>?_,fun i o hi=>?_,⟨hR5.hp.st.toStp,fun B x hB=>?_⟩⟩
  ·have key:∀i o,H'.get i=some o→o.live=true→∃o2,Hs.get i=some o2∧o2.live=true:=fun i o hi lo=>by
    rcases hcase i o hi with⟨rfl,rfl⟩|⟨_,g1,_⟩
    ·exact⟨z,hz,hl⟩
    ·exact⟨o,g1,lo⟩
   obtain⟨o2,g1,g2⟩:=key i o hi lo
   obtain⟨o3,g3,g4⟩:=key j o' hj lo'
   rw[(hag i (by rw[g1];rfl)).1,(hag j (by rw[g3];rfl)).1] at e
   exact hR.hp.nd i j o2 o3 g1 g3 g2 g4 e
  ·rcases hcase i o hi with⟨rfl,rfl⟩|⟨_,g1,g2⟩
   ·rw[(hag i hbi).1]
    refine⟨?_,(Array.getElem?_eq_some_iff.1 hob).1⟩
    show E2.w.heap.size≤_
    rw[hw];exact(hR.hp.hi i z hz hl).1
   ·exact hR5.hp.hi i o g2 lo
  ·show unpin E2.X (ρ bi) (ρ' i)=none
   unfold unpin
   split
   ·rfl
   ·rename_i hne
    rcases hcase i o hi with⟨rfl,rfl⟩|⟨_,g1,g2⟩
    ·exact absurd (hag i hbi).1 hne
    ·exact hR5.hp.ap i o g2 lo
  ·rcases hcase i o hi with⟨rfl,rfl⟩|⟨_,g1,g2⟩
   ·refine⟨XB.ok_mono hmo hok, ?_⟩
    rw[(hag i hbi).1,(hag i hbi).2]
    exact how hob
   ·exact⟨XB.ok_mono hmo (hR.hp.bl i o g1).1,(hR5.hp.bl i o g2).2⟩
  ·have hB':unpin E2.X (ρ bi) B=some x:=hB
   unfold unpin at hB'
   split at hB'
   ·cases hB'
   ·exact hR5.hp.st.fx B x hB'
 refine⟨⟨hR5.df.1,hR5.df.2.1,fun D hD=>?_⟩,hR5.sz,fun i x hi=>?_,hp⟩
 ·obtain⟨d1,d2⟩:=hR5.df.2.2 D hD
  refine⟨?_,d2⟩
  show unpin E2.X (ρ bi) D=_
  unfold unpin
  rw[if_neg (fun e=>by rw[e,hX] at d1;injection d1 with d1;exact hnd _ d1)]
  exact d1
 ·obtain⟨g1,_⟩:=hR5.fr i x (hF i x hi)
  exact⟨g1,XV.ok_mono hmo x (hR.fr i x hi).2⟩
theorem XR.over (hR:XR N E ρ γ F Hs a w) (hz:Hs.get bi=some z) (hl:z.live=true) (h1:∀i,H1.get i=if i=bi then some .dead else Hs.get i):XR N E ρ γ F H1 a w:=by
 have hA:Agr Hs ρ γ H1 ρ γ:=fun b hb=>by
  refine⟨?_,rfl,rfl⟩
  rw[h1];split
  ·rfl
  ·exact hb
 have hcase:∀i o,H1.get i=some o→o.live=true→Hs.get i=some o:=fun i o hi lo=>by
  rw[h1] at hi
  split at hi
  ·injection hi with hi;subst hi;cases lo
  ·exact hi
 refine⟨hR.df,hR.sz,fun i x hi=>⟨(hR.fr i x hi).1,hA.ok (hR.fr i x hi).2⟩,⟨fun i j o o' hi hj lo lo' e=>hR.hp.nd i j o o' (hcase i o hi lo) (hcase j o' hj lo') lo lo' e,fun i o hi lo=>hR.hp.hi i o (hcase i o hi lo) lo,fun i o hi lo=>hR.hp.ap i o (hcase i o hi lo) lo,fun i o hi=>?_,hR.hp.st⟩⟩
 rw[h1] at hi
 split at hi
 ·injection hi with hi;subst hi;exact⟨trivial,trivial⟩
 ·obtain⟨g1,g2⟩:=hR.hp.bl i o hi
  exact⟨XB.ok_agr hA g1,g2⟩
end
section
variable {P:Program} {N m n:Nat} {F:XFr} {H:XHp} {call:XCf} {yh:XYh} {rd:Bool} {Fe:Fence}
theorem xml_ok (hF:XF rd Fe) (hr:rd=true→yh=none) (hc:XCfOk P call) {run:XRun} {b:Code} {q:XMd} {k:Nat} (hq:xmrec F H b=some q) (hck:xmchk P N call yh run n F H k q=true) {e0:Exit} {F0:XFr} {H0:XHp} {k0:Nat} (hend:xmend N F H k q=some (e0,F0,H0,k0))
    (hrun:∀{E:XEnv} {ρ γ:Nat→Nat} {F:XFr} {H:XHp} {k k':Nat} {F':XFr} {H':XHp} {e:Exit} {a:Act} {w:World} {Q:Exit→Act→World→Prop},run F H k=some (e,F',H',k')→XR N E ρ γ F H a w→XYS P E ρ γ H yh→(∀a' w',XPostE rd N E ρ γ H F' H' a' w'→Q e a' w')→q.tail.wpIn Fe m P Q a w)
    {E0:XEnv} {ρ0 γ0:Nat→Nat} (hY0:XYS P E0 ρ0 γ0 H yh) {Q:Exit→Act→World→Prop} (hQ:∀a' w',XPostE rd N E0 ρ0 γ0 H F0 H0 a' w'→Q e0 a' w') :
    ∀(u r:Nat),u < r→∀{E:XEnv} {ρ γ:Nat→Nat} {a:Act} {w:World} {seen:List Nat} {last:Nat} {Hs:XHp},(Ext E0 E∧(rd=true→E=E0))→(∀i,Hs.get i=if i=q.bi then some (.iter q.m q.since seen last) else H.get i)→Agr H ρ0 γ0 Hs ρ γ→XR N E ρ γ F Hs a w→q.since≤last→(q.bs.filter fun x=>!seen.contains x).length≤u→Code.roundsIn Fe m P b Q r a w:=by
 obtain⟨id1,id2,ops,o1,o2,o3,hb,hl1,hl2,⟨g11,g12,g13⟩,⟨g21,g22,g23⟩,⟨g31,g32,g33⟩,⟨hn1,hn2⟩,hit,hbi,hmm⟩:=zy8 hq
 unfold xmchk at hck
 simp only[Bool.and_eq_true] at hck
 obtain⟨⟨⟨⟨⟨c1,c2⟩,c3⟩,c4⟩,c5⟩,c6⟩:=hck
 have c2':=Nat.le_of_ble_eq_true c2
 have c3':=Nat.le_of_ble_eq_true c3
 have hnd:=zm5 c4
 split at c6
 rotate_left
 ·cases c6
 rename_i H1 hH1
 obtain⟨_,hH1g⟩:=zF3 hH1
 unfold xmend at hend
 rw[hH1] at hend
 split at hend
 rotate_left
 ·cases hend
 rename_i F1 H1' hF1 hH1'
 injection hH1' with hH1'
 subst hH1'
 split at hend
 rotate_left
 ·cases hend
 rename_i F2 hF2
 simp only[Option.some.injEq,Prod.mk.injEq] at hend
 obtain⟨rfl,rfl,rfl,rfl⟩:=hend
 have hmne:q.m≠q.bi:=fun e=>by rw[e,hbi] at hmm;cases hmm
 intro u
 induction u using Nat.strongRecOn with
 | _ u ih=>
 intro r hur E ρ γ a w seen last Hs hE hHs hA hR hsl hcnt
 obtain⟨r,rfl⟩:∃r',r=r'+1:=⟨r - 1,by omega⟩
 have hz:Hs.get q.bi=some (.iter q.m q.since seen last):=by rw[hHs,if_pos rfl]
 have hm':Hs.get q.m=some (.map q.es q.bs q.ck):=by rw[hHs,if_neg hmne];exact hmm
 have hd1:∀i,H1.get i=if i=q.bi then some .dead else Hs.get i:=fun i=>by
  rw[hH1g,hHs]
  split <;> rfl
 obtain⟨ok1,ow1⟩:=hR.hp.bl _ _ hz
 obtain⟨ok2,ms,ow2,ow3,ow4⟩:=hR.hp.bl _ _ hm'
 have ow1':w.heap[ρ q.bi]?=some (.mapIter (some (ρ q.m)) q.since seen.toArray last):=ow1
 have hev:=(hR.ev (x:=.tmp q.it) hit).1
 simp only[XV.den] at hev
 have hold:∀x∈ms.toList,x.born < q.since:=fun x hx=>by
  have h1:x.born∈q.bs:=by rw[←ow4];exact List.mem_map.2 ⟨x,hx,rfl⟩
  have h2:=List.all_eq_true.1 c1 _ h1
  rwa [Nat.blt_eq] at h2
 rw[roundsIn_succ,hb]
 refine wpIn_seq (wpIn_region_list ?_)
 rw[hl1]
 refine wpListIn_step fun K hK=>?_
 rw[if_pos (by simp[Region.wanted,g11])]
 refine zC1 hF ?_
 unfold effO
 rcases run_next_at (P:=P) w o1.type (ρ q.bi) (ρ q.m) q.since last seen.toArray ms q.ck ow1' ow2 hold hsl with⟨q0,hrun1⟩|⟨e,he,w1,hw1,hrun1⟩
 ·have hex:(execOp a.eval o1).run P w = .ok (.value (.tuple #[.bool false])) w:=by
   simp only[execOp,g13,hev,Sem.run_bind,hrun1,Result.andThen_ok,Sem.run_pure]
  rw[hex]
  refine hK _ _ ?_
  rw[g12]
  have hR1:XR N E ρ γ F1 Hs (a.put (some q.d) (.tuple #[.bool false])) w:=hR.put hF1 (x:=.t [.v (.bool false)]) ⟨trivial,trivial⟩
  have hev1:=(hR1.ev (x:=.tmp q.d) (show F1.get q.d=some (.t [.v (.bool false)]) from by rw[(zR1 hF1).2,if_pos rfl])).1
  refine wpListIn_step fun K2 hK2=>?_
  rw[if_pos (by simp[Region.wanted,g21])]
  refine zC1 hF ?_
  unfold effO
  have hex2:(execOp (a.put (some q.d) (.tuple #[.bool false])).eval o2).run P w = .ok (.value (.bool false)) w:=by
   simp[execOp,g23,hev1,Instr.extract,XV.den,XV.denL]
  rw[hex2]
  refine hK2 _ _ ?_
  rw[g22]
  have hR2:XR N E ρ γ F2 Hs ((a.put (some q.d) (.tuple #[.bool false])).put (some q.c) (.bool false)) w:=hR1.put hF2 (x:=.v (.bool false)) trivial
  have hev2:=(hR2.ev (x:=.tmp q.c) (show F2.get q.c=some (.v (.bool false)) from by rw[(zR1 hF2).2,if_pos rfl])).1
  refine wpListIn_nil ?_
  refine wpIn_seq (wpIn_cond_false hev2 (wpIn_exit ?_))
  refine hQ _ _ ⟨E,ρ,γ,hE,hR2.over hz rfl hd1,fun c hc=>?_⟩
  obtain⟨a1,a2,a3⟩:=hA c hc
  refine⟨?_,a2,a3⟩
  rw[hd1];split
  ·rfl
  ·exact a1
 ·have hex:(execOp a.eval o1).run P w = .ok (.value (.tuple #[.bool true,e.key,e.val])) (zp w1 (ρ q.bi) (.mapIter (some (ρ q.m)) q.since (seen.toArray.push e.born) q.ck)):=by
   simp only[execOp,g13,hev,Sem.run_bind,hrun1,Result.andThen_ok,Sem.run_pure]
   rfl
  rw[hex]
  refine hK _ _ ?_
  rw[g12]
  have he':e∈ms.toList∧e.born∉seen:=by
   unfold leftOf at he
   simpa using he
  obtain⟨j,hj⟩:=List.getElem?_of_mem he'.1
  have hlen:q.es.length=ms.toList.length:=by have:=congrArg List.length ow3;simpa using this.symm
  have hjl:j < q.es.length:=by rw[hlen];exact(List.getElem?_eq_some_iff.1 hj).1
  obtain⟨p,hp⟩:∃p,q.es[j]?=some p:=⟨_,List.getElem?_eq_getElem hjl⟩
  have hkv:e.key=p.1∧e.val=p.2.den ρ γ:=by
   have:=congrArg (fun l:List (Value × Value)=>l[j]?) ow3
   simp only[List.getElem?_map,hj,hp,Option.map_some,Option.some.injEq,Prod.mk.injEq] at this
   exact this
  have hbo:e.born∈q.bs:=by rw[←ow4];exact List.mem_map.2 ⟨e,he'.1,rfl⟩
  have hpm:=List.mem_of_getElem? hp
  have hpok:p.2.ok (Hs.has γ):=ok2 p hpm
  have hch:=List.all_eq_true.1 c6 p hpm
  unfold xmround at hch
  split at hch
  rotate_left
  ·cases hch
  rename_i G1 hG1
  split at hch
  rotate_left
  ·cases hch
  rename_i G2 hG2
  split at hch
  rotate_left
  ·cases hch
  rename_i G3 hG3
  split at hch
  rotate_left
  ·cases hch
  rename_i G4 H4 k4 hG4
  obtain⟨ob,hob⟩:∃ob:Obj,ob = .mapIter (some (ρ q.m)) q.since (seen.toArray.push e.born) q.ck:=⟨_,rfl⟩
  rw[←hob]
  have hRw1:XR N E ρ γ F Hs a w1:=by rcases hw1 with rfl|rfl <;> first|exact hR|exact hR.agr (Agr.refl _ _ _) ⟨hR.hp.nd,hR.hp.hi,hR.hp.ap,fun i o ho=>⟨(hR.hp.bl i o ho).1,(hR.hp.bl i o ho).2.keep (hR.hp.bl i o ho).1 (Agr.refl _ _ _) rfl⟩,hR.hp.st.drew⟩
  have hRa:=hRw1.aside (ob:=ob) hz rfl hd1
  obtain⟨E1,hE1⟩:∃E1:XEnv,E1=⟨E.w,pin E.X (ρ q.bi) ob,E.own⟩:=⟨_,rfl⟩
  rw[←hE1] at hRa
  obtain⟨w2,hw2⟩:∃w2,w2=zp w1 (ρ q.bi) ob:=⟨_,rfl⟩
  rw[←hw2] at hRa ⊢
  have hXn:=hR.hp.ap _ _ hz rfl
  have hA1:Agr Hs ρ γ H1 ρ γ:=fun c hc=>by
   refine⟨?_,rfl,rfl⟩
   rw[hd1];split
   ·rfl
   ·exact hc
  have hpok1:p.2.ok (H1.has γ):=hA1.ok hpok
  have den3:(XV.t [.v (.bool true),xnorm p.1,p.2]).den ρ γ = .tuple #[.bool true,e.key,e.val]:=by simp[XV.den,XV.denL,zA1,hkv.1,hkv.2]
  have hR1:XR N E1 ρ γ G1 H1 (a.put (some q.d) (.tuple #[.bool true,e.key,e.val])) w2:=by
   rw[←den3]
   exact hRa.put hG1 ⟨trivial,zn2 _ _,hpok1,trivial⟩
  have hev1:=(hR1.ev (x:=.tmp q.d) (show G1.get q.d=some (.t [.v (.bool true),xnorm p.1,p.2]) from by rw[(zR1 hG1).2,if_pos rfl])).1
  rw[den3] at hev1
  refine wpListIn_step fun K2 hK2=>?_
  rw[if_pos (by simp[Region.wanted,g21])]
  refine zC1 hF ?_
  unfold effO
  have hex2:(execOp (a.put (some q.d) (.tuple #[.bool true,e.key,e.val])).eval o2).run P w2 = .ok (.value (.bool true)) w2:=by
   simp[execOp,g23,hev1,Instr.extract]
  rw[hex2]
  refine hK2 _ _ ?_
  rw[g22]
  have hR2:XR N E1 ρ γ G2 H1 ((a.put (some q.d) (.tuple #[.bool true,e.key,e.val])).put (some q.c) (.bool true)) w2:=hR1.put hG2 (x:=.v (.bool true)) trivial
  generalize (a.put (some q.d) (.tuple #[.bool true,e.key,e.val])).put (some q.c) (.bool true)=a2 at hR2 ⊢
  have hev2:=(hR2.ev (x:=.tmp q.c) (show G2.get q.c=some (.v (.bool true)) from by rw[(zR1 hG2).2,if_pos rfl])).1
  refine wpListIn_nil ?_
  refine wpIn_seq (wpIn_cond_true hev2 (wpIn_skip ?_))
  refine wpIn_block (wpIn_seq (wpIn_region_list ?_))
  rw[hl2]
  refine wpListIn_step fun K3 hK3=>?_
  rw[if_pos (by simp[Region.wanted,g31])]
  refine zC1 hF ?_
  unfold effO
  have hit2:G2.get q.it=some (.p q.bi 0):=by
   rw[(zR1 hG2).2,if_neg hn2,(zR1 hG1).2,if_neg hn1]
   exact hit
  have hev3:=(hR2.ev (x:=.tmp q.it) hit2).1
  simp only[XV.den] at hev3
  have hwob:w2.heap[ρ q.bi]?=some ob:=hR2.hp.st.fx _ _ (by rw[hE1];exact if_pos rfl)
  have hwm:w2.heap[ρ q.m]?=some (.map ms q.ck):=by
   rw[hw2,zH,if_neg (fun h=>hmne (hR.hp.nd _ _ _ _ hm' hz rfl rfl h.1))]
   rcases hw1 with rfl|rfl <;> exact ow2
  have hrun3:=run_entry_at (P:=P) w2 (ρ q.bi) (ρ q.m) q.since seen.toArray ms q.ck e (by rw[hwob,hob]) hwm he'.1 (by rw[ow4];exact hnd)
  have den4:(XV.t [xnorm p.1,p.2]).den ρ γ = .tuple #[e.key,e.val]:=by simp[XV.den,XV.denL,zA1,hkv.1,hkv.2]
  have hex3:(execOp a2.eval o3).run P w2 = .ok (.value (.tuple #[e.key,e.val])) w2:=by
   simp only[execOp,g33,hev3,Sem.run_bind,hrun3,Result.andThen_ok,Sem.run_pure]
  rw[hex3]
  refine hK3 _ _ ?_
  rw[g32]
  have hR3:XR N E1 ρ γ G3 H1 (a2.put (some q.e) (.tuple #[e.key,e.val])) w2:=by
   rw[←den4]
   exact hR2.put hG3 ⟨zn2 _ _,hpok1,trivial⟩
  have hExt1:Ext E E1:=by
   rw[hE1]
   refine⟨rfl,fun B x hB=>?_,fun D hD=>.inl hD⟩
   show pin E.X (ρ q.bi) ob B=some x
   unfold pin
   rw[if_neg (fun e=>by rw[e,hXn] at hB;cases hB)]
   exact hB
  have hY1:XYS P E1 ρ γ H1 yh:=(hY0.step (hE.1.trans hExt1) (hA.trans hA1))
  refine zM4 hF hr hc hG4 hR3 hY1 fun a3 w3 hpost=>?_
  obtain⟨ρ1,γ1,p1,p2⟩:=hpost
  have fin:∀{F5:XFr} {H5:XHp} {a5:Act} {w5:World},(F.sub XV.same F5 && H1.sub XB.same H5)=true→XPostE rd N E1 ρ1 γ1 H4 F5 H5 a5 w5→Code.roundsIn Fe m P b Q r a5 w5:=fun {F5 H5 a5 w5} hs hpe=>by
   obtain⟨E2,ρ2,γ2,⟨x1,x2⟩,x3,x4⟩:=hpe
   simp only[Bool.and_eq_true] at hs
   have hFs:=XT.sub_get XV.same_eq _ _ hs.1
   have hHsub:=XT.sub_get XB.same_eq _ _ hs.2
   have hXb:E1.X (ρ q.bi)=some ob:=by rw[hE1];exact if_pos rfl
   have hX2:=x1.2.1 _ _ hXb
   have hAll:=p2.trans x4
   have hcap:Nat.blt q.bi xcap=true:=by
    unfold xset at hH1
    rw[hbi] at hH1
    cases hcb:Nat.blt q.bi xcap with
    | true=>rfl
    | false=>rw[hcb] at hH1;cases hH1
   obtain⟨H6,hH6⟩:∃H6,xset H q.bi (.iter q.m q.since (seen++[e.born]) q.ck)=some H6:=⟨_,by unfold xset;rw[hbi,hcap];rfl⟩
   obtain⟨_,h6g⟩:=zF3 hH6
   have h6:∀i,H6.get i=if i=q.bi then some (.iter q.m q.since (seen++[e.born]) q.ck) else Hs.get i:=fun i=>by
    rw[h6g,hHs]
    split <;> rfl
   have hρm:ρ2 q.m=ρ q.m:=((hA1.trans hAll) q.m (by rw[hm'];rfl)).2.1
   have hback:=hR.back (F5:=F5) (H5:=H5) (H':=H6) (ob:=ob) (z':=.iter q.m q.since (seen++[e.born]) q.ck) hz rfl hd1 x3 (x1.1.trans (by rw[hE1])) hX2 hFs hHsub hAll h6 rfl ⟨by rw[hm'];rfl,Nat.zero_le _⟩ (fun hh=>by
    show w5.heap[ρ q.bi]?=_
    rw[hh,hob,hρm]
    simp) (fun v h=>by rw[hob] at h;cases h)
   have hlt:(q.bs.filter fun x=>!(seen++[e.born]).contains x).length < (q.bs.filter fun x=>!seen.contains x).length:=by
    have hff:(q.bs.filter fun x=>!(seen++[e.born]).contains x)=(q.bs.filter fun x=>!seen.contains x).filter (fun x=>x != e.born):=by
     rw[List.filter_filter]
     refine List.filter_congr fun x _=>?_
     by_cases hx:x=e.born
     ·simp[hx]
     ·simp[hx]
    rw[hff]
    refine List.length_filter_lt_length_iff_exists.2 ⟨e.born,List.mem_filter.2 ⟨hbo,by simpa using he'.2⟩,by simp⟩
   refine ih _ (Nat.lt_of_lt_of_le hlt hcnt) r (by omega) (E:=⟨E2.w,unpin E2.X (ρ q.bi),E2.own⟩) (ρ:=ρ2) (γ:=γ2) (seen:=seen++[e.born]) (last:=q.ck) ?_ h6g ?_ hback c3' (Nat.le_refl _)
   ·have hpin:∀B x,E.X B=some x→unpin E2.X (ρ q.bi) B=some x:=fun B x hB=>by
     have h1:=x1.2.1 B x (hExt1.2.1 B x hB)
     unfold unpin
     rw[if_neg (fun e=>by rw[e,hXn] at hB;cases hB)]
     exact h1
    refine⟨hE.1.trans ⟨x1.1.trans hExt1.1,hpin,fun D hD=>?_⟩,fun hrd=>?_⟩
    ·rcases x1.2.2 D hD with h|h
     ·rw[hE1] at h;exact .inl h
     ·refine .inr ?_
      cases hED:E.X D with
      | none=>rfl
      | some ob'=>rw[hExt1.2.1 D ob' hED] at h;cases h
    ·have h2:=x2 hrd
     have h3:=hE.2 hrd
     rw[←h3,h2,hE1]
     have:unpin (pin E.X (ρ q.bi) ob) (ρ q.bi)=E.X:=by
      funext B
      unfold unpin pin
      split
      ·rename_i h;rw[h,hXn]
      ·rfl
     rw[this]
   ·exact fun c hc=>by
     obtain⟨a1,a2,a3⟩:=(hA.trans (hA1.trans hAll)) c hc
     refine⟨?_,a2,a3⟩
     rw[h6g]
     split
     ·rfl
     ·exact hc
  show Code.wpIn Fe m P q.tail _ _ _
  split at hch
  ·rename_i F5 H5 k5 hr5
   refine hrun hr5 p1 (hY1.step (Ext.refl _) p2) fun a5 w5 hpe=>?_
   rw[←hb]
   exact fin hch hpe
  ·rename_i z F5 H5 k5 hr5
   simp only[Bool.and_eq_true] at hch
   obtain⟨⟨y1,y2⟩,y3⟩:=hch
   obtain rfl:=Nat.eq_of_beq_eq_true y1
   refine hrun hr5 p1 (hY1.step (Ext.refl _) p2) fun a5 w5 hpe=>?_
   rw[←hb]
   show Exit.inBlock q.y _ (.exit q.y) a5 w5
   simp only[Exit.inBlock,if_true]
   exact fin (by rw[y2,y3];rfl) hpe
  ·cases hch
end
end Go.Proofs.YtophoepbedlhjaaGreatDoor
