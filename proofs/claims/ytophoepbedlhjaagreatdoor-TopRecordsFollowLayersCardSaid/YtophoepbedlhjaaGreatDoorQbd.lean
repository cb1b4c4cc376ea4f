/- The logic over values: a range over a function; a state said from a later beginning. -/
import Derived.Test.YtophoepbedlhjaaGreatDoorQax
import Derived.RangeFuncBox
set_option linter.unusedSimpArgs false
set_option linter.unusedVariables false
namespace Go.Proofs.YtophoepbedlhjaaGreatDoor
open Go Go.RowKit
section
variable {P:Program} {N:Nat} {E E2:Env} {F F1:Fm} {H H1:List OB} {S S1:Nat→Prop} {ρ ρ1:List (Option Nat)} {a a1:Act} {w W:World}
theorem R.rebase (h0:R N E S1 ρ1 F1 H1 a1 W) (hw:E2.w0=W) (hS:E2.S0=S1) (hr:E2.r0=ρ1) (hH:E2.H0=H1) (hp:E2.pin=E.pin) (h:R N E2 S ρ F H a w) {a':Act} {F':Fm} (hd:a'.defers=E.dfs) (hz:N≤a'.tmps.size) (hf:∀i x,F'.lookup i=some x→a'.tmps[i]?=some (x.den ρ H)∧WF w S ρ H x):R N E S ρ F' H a' w:=by
 subst hw hS hr hH
 have hsz:=h0.st.size
 refine⟨hd,hz,hf,h.hp,h0.st.trans h.st (fun B hB hT=>?_),fun i B hi=>?_,fun b hb=>?_,fun i k B hi=>?_,fun i hi=>?_,fun hpp i hi=>?_⟩
 ·rcases hT with⟨i,hi⟩|⟨i,k,hi⟩
  ·rcases h0.nw i B hi with(h1|h1)|⟨_,h1⟩
   ·omega
   ·exact .inr h1
   ·exact .inl ⟨i,h1⟩
  ·rcases h0.pw i k B hi with h1|h1
   ·omega
   ·exact .inr h1
 ·rcases h.nw i B hi with(h1|⟨i',k,h1⟩)|⟨_,h1⟩
  ·exact .inl (.inl (by omega))
  ·exact .inl (h0.pw i' k B h1)
  ·exact h0.nw i B h1
 ·rcases h.nS b hb with h1|h1|⟨i',k,h1⟩
  ·exact h0.nS b h1
  ·exact .inr (.inl (by omega))
  ·exact .inr (h0.pw i' k b h1)
 ·rcases h.pw i k B hi with h1|⟨i',k',h1⟩
  ·exact .inl (by omega)
  ·exact h0.pw i' k' B h1
 ·obtain⟨h1,h2⟩:=h0.ln i hi
  obtain⟨h3,h4⟩:=h.ln i h1
  refine⟨h3,fun o ho hs=>?_⟩
  obtain⟨h5,o',h6,h7⟩:=h2 o ho hs
  obtain⟨h8,o2,h9,h10⟩:=h4 o' h6 (by rw[h7];exact hs)
  exact⟨h8.trans h5,o2,h9,h10.trans h7⟩
 ·obtain⟨h1,h2⟩:=h0.ln i hi
  obtain⟨h3,h4,h5⟩:=h0.pn hpp i hi
  obtain⟨h6,h7,h8⟩:=h.pn (hp.trans hpp) i h1
  exact⟨h6.trans h3,h7.trans h4,h8.trans h5⟩
theorem R.anew (h:R N E S ρ F H a w) (pin:Bool) (rd:Option Nat) (a':Act) (hz:N≤a'.tmps.size) (hf:∀i x,F1.lookup i=some x→a'.tmps[i]?=some (x.den ρ H)∧WF w S ρ H x):R N ⟨w,S,ρ,H,pin,rd,a'.defers⟩ S ρ F1 H a' w:=
 ⟨rfl,hz,hf,h.hp,Stp.refl _ _,fun i B hi=>.inr ⟨by rw[←h.hp.len];exact zJ4 hi,hi⟩,fun b hb=>.inl hb,fun i k B hi=>.inr ⟨i,k,hi⟩,fun i hi=>⟨hi,fun o ho _=>⟨rfl,o,ho,rfl⟩⟩,fun _ i hi=>⟨rfl,rfl,rfl⟩⟩
end
section
variable {P:Program} {w:World}
theorem zH9 {α:Type} {g:Operand} {ps:Array Tmp} {assign body:Code} {Q:Exit→Act→World→Prop} {a:Act} {gf:Nat} {lb:Array Value}
    (hg:a.eval g = .func (.func gf) #[] lb) (eg:∀args w,(callFunc gf args).run P w = .ok (.enter gf args) w) (encs:α→Array Value) (XS:List α) (hps:∀x,(encs x).size=ps.size)
    (I:Nat→World→Prop) (Kp:World→World→Prop)
    (hKt:∀A B C:World,Kp A B→Kp B C→Kp A C)
    (hKb:∀W W' row,W.grownBy W' row→(∀r,row=some r→w.heap.size≤r)→w.heap.size≤W.heap.size→Kp W W')
    (hI:∀k W W' row,I k W→W.grownBy W' row→W.drawn≤W'.drawn→(∀r,row=some r→w.heap.size≤r∧∃o:Obj,W.heap[r]?=some o∧o.isCells=false)→I k W')
    (hseq:∀(l:Nat) (J:Nat→World→Prop) (W:World),Kp w W→(∀k W,J k W→J k W.drew) →
     (∀k x W1,XS[k]?=some x→J k W1→YieldAt Fence.wide 0 P l (encs x) W1 fun e W'=>e = .returned (.bool true)∧J (k+1) W'∧Kp W1 W')→J 0 W →
     CallsIn Fence.wide 1 P gf (#[.func (.yield l) #[] #[]]++lb) W fun e W'=>(∃v,e = .returned v)∧J XS.length W')
    (h0:I 0 w) (Ax:Nat→Nat→α→Act→World→Prop)
    (hassign:∀(l k:Nat) (x:α) (W:World) (r:Loop),XS[k]?=some x→I k W→w.heap.size≤l→W.heap[l]?=some (.loop r) →
     assign.wpIn (Fence.wide.inRound l) 0 P (fun e a' W'=>e = .normal∧Ax l k x a' W'∧Kp W W'∧KeepsFrom w.heap.size W W') { tmps:=(ps.zip (encs x)).foldl (fun t (p,v)=>t.setIfInBounds p v) a.tmps,defers:=[] } W)
    (hAx:∀(l k:Nat) (x:α) (a':Act) (W:World) (r:Loop) (o':Obj),Ax l k x a' W→w.heap.size≤l→W.heap[l]?=some (.loop r)→Ax l k x a' (W.putObj l o'))
    (hbody:∀(l k:Nat) (x:α) (a':Act) (W:World),XS[k]?=some x→Ax l k x a' W→body.wpIn (Fence.wide.inRound l) 0 P (fun e _ W'=>e = .normal∧I (k+1) W'∧Kp W W'∧KeepsFrom w.heap.size W W') a' W)
    (hdone:∀(D:Nat) (W:World),w.heap.size≤D→I XS.length W→W.heap[D]?=some (.deferred (some []))→Q .normal { a with defers:={ target:=.collected D,args:=#[] } :: a.defers } W) :
    (Code.rangeFunc g ps assign body).wp P Q a w:=by
 refine(wpIn_wide (n:=2)).1 (wpIn_rangeFunc ?_)
 intro fn hfn
 rw[show Fence.wide.round=none from rfl]
 let rec':LoopState→Option Code→Loop:=fun st pe=>{ state:=st,pending:=pe,fn,tmps:=a.tmps,params:=ps,assign,body,defers:=w.heap.size }
 let W1:=(w.alloc (.deferred (some []))).alloc (.loop (rec' .ready none))
 let D:=w.heap.size
 let l:=w.heap.size+1
 have hL1:W1.heap[l]?=some (.loop (rec' .ready none)):=by
  have:=World.alloc_heap_new (w.alloc (.deferred (some []))) (.loop (rec' .ready none));rwa [World.size_alloc] at this
 have hD1:W1.heap[D]?=some (.deferred (some [])):=(Below.heap_alloc _ _ _ (by simp[D])).trans (World.alloc_heap_new w _)
 have hI1:I 0 W1:=hI _ _ _ none (hI _ _ _ none h0 (World.grownBy_alloc _ _ _) (Nat.le_refl _) (fun r e=>by cases e)) (World.grownBy_alloc _ _ _) (Nat.le_refl _) (fun r e=>by cases e)
 have hK1:Kp w W1:=hKt _ _ _ (hKb _ _ none (World.grownBy_alloc _ _ _) (fun r e=>by cases e) (Nat.le_refl _)) (hKb _ _ none (World.grownBy_alloc _ _ _) (fun r e=>by cases e) (by simp))
 -- what turns the record keeps the rest
 have hIp:∀k W o,I k W→W.heap[l]?=some (.loop o)→∀o',I k (W.putObj l o'):=fun k W o hi hl o'=>hI _ _ _ (some l) hi (grownBy_putObj' W l o') (Nat.le_refl _) (fun r e=>by cases e;exact⟨Nat.le_succ _,_,hl,rfl⟩)
 have hKp:∀W o',w.heap.size≤W.heap.size→Kp W (W.putObj l o'):=fun W o' hs=>hKb _ _ (some l) (grownBy_putObj' W l o') (fun r e=>by cases e;exact Nat.le_succ _) hs
 refine⟨l,[{ target:=.collected D,args:=#[] }],W1,{ target:=.fn (.func gf) lb,args:=#[.func (.yield l) #[] #[]] },W1,gf,#[.func (.yield l) #[] #[]]++lb,W1,run_enterLoop_outer _ _ _ _ _, ?_,fun _ _=>trivial, ?_,fun h=>(by cases h), ?_⟩
 ·simp only[resolve,hg]
  simp[go_sem]
 ·simp[invoke,go_sem,eg]
 ·refine(hseq l (fun k W=>I k W∧W.heap[l]?=some (.loop (rec' .ready none))∧W.heap[D]?=some (.deferred (some []))) W1 hK1
   (fun k W ⟨hi,hl,hd⟩=>⟨hI _ _ _ none hi ⟨rfl,rfl,rfl,Nat.le_refl _,fun _ _ _=>rfl⟩ (Nat.le_succ _) (fun r e=>by cases e),hl,hd⟩) ?_ ⟨hI1,hL1,hD1⟩).mono ?_
  ·rintro k x W hx ⟨hi,hl,hd⟩
   have hy:=run_yield (P:=P) (args:=encs x) hl (hps x)
   refine⟨fn,_,assign,body,hy,roundIn_of_wpIn hfn ?_⟩
   refine wpIn_mono (hassign l k x W _ hx hi (Nat.le_succ _) hl) ?_
   rintro e a' Wb ⟨rfl,hax,hkw,hkf0⟩
   have hl:=hkf0.same l _ (Nat.le_succ _) hl rfl
   have hd:=hkf0.same D _ (Nat.le_refl _) hd rfl
   have hlt:l < Wb.heap.size:=(Array.getElem?_eq_some_iff.1 hl).1
   have hws:w.heap.size≤Wb.heap.size:=by omega
   refine⟨_,run_beginRound hl rfl, ?_⟩
   have hl2:(Wb.putObj l (.loop { rec' .ready none with state:=.busy })).heap[l]?=some (.loop { rec' .ready none with state:=.busy }):=World.putObj_heap_same hlt
   have hd2:(Wb.putObj l (.loop { rec' .ready none with state:=.busy })).heap[D]?=some (.deferred (some [])):=(World.putObj_heap_other (by omega)).trans hd
   refine wpIn_mono (hbody l k x _ _ hx (hAx _ _ _ _ _ _ _ hax (Nat.le_succ _) hl)) ?_
   rintro e a3 W3 ⟨rfl,hi3,hk3,hkf⟩
   have hl3:=hkf.same l _ (Nat.le_succ _) hl2 rfl
   have hd3:=hkf.same D _ (Nat.le_refl _) hd2 rfl
   have hlt3:l < W3.heap.size:=(Array.getElem?_eq_some_iff.1 hl3).1
   refine⟨_,_,run_endRound none hl3,rfl,⟨hIp _ _ _ hi3 hl3 _,World.putObj_heap_same hlt3,(World.putObj_heap_other (by omega)).trans hd3⟩, ?_⟩
   exact hKt _ _ _ hkw (hKt _ _ _ (hKp _ _ hws) (hKt _ _ _ hk3 (hKp _ _ (by omega))))
  ·rintro e W2 ⟨⟨v,rfl⟩,hi,hl,hd⟩
   exact⟨none,_,run_endLoop hl (by simp[rec']),hdone D _ (Nat.le_refl _) (hIp _ _ _ hi hl _) ((World.putObj_heap_other (by omega)).trans hd)⟩
end
def AVF:AV→Prop
 | .c (.s _)=>True
 | .p ..=>True
 | .o ..=>True
 | .mp _=>True
 | _=>False
def OBF:OB→Prop
 | .box l=>∀x∈l,AVF x
 | .boxt _ l=>∀x∈l,AVF x
 | .arr _ _ _ rows=>∀row∈rows,∀u∈row,∃v,u = .s v
 | .map es _=>∀e∈es,∃v,e.2.2 = .s v
 | _=>False
def OBC (o:OB):Prop:=∃xs:List CV,o = .box (xs.map .c)
def FlatH (H0 H:List OB):Prop:=∀(i:Nat) (o:OB),H[i]?=some o→OBF o∨(OBC o∧H0[i]?=some o)
theorem FlatH.nil (H0:List OB):FlatH H0 []:=fun i o h=>by simp at h
theorem WF.flat {w:World} {S S0:Nat→Prop} {ρ:List (Option Nat)} {H:List OB} {x:AV} (hf:AVF x) (h:WF w S ρ H x):WF w S0 ρ H x:=by
 cases h with
 | c hg=>rename_i x;cases x <;> first|exact .c (.s _)|exact hf.elim
 | p h0 h=>exact .p h0 h
 | o h0 h1 h2 h3=>exact .o h0 h1 h2 h3
 | mp h0 h=>exact .mp h0 h
 | q=>exact hf.elim
 | a=>exact hf.elim
 | t=>exact hf.elim
 | f=>exact hf.elim
theorem zO {H0 H:List OB} (h:FlatH H0 H) {i k B:Nat}:¬inP H i k B:=fun⟨o,h1,h2⟩=>by
 obtain⟨l,rfl⟩:=zp1 h2
 rcases h i _ h1 with h3|⟨⟨xs,h3⟩,_⟩
 ·exact h3.elim
 ·cases h3
theorem OwnB.flat {w:World} {S S0:Nat→Prop} {ρ:List (Option Nat)} {H:List OB} {o:OB} {m:Option Nat} (hf:OBF o) (h:OwnB w S ρ H o m):OwnB w S0 ρ H o m:=by
 cases o with
 | box l=>
  obtain⟨B,t,rfl,h1,h2⟩:=h
  exact⟨B,t,rfl,h1,fun x hx=>⟨(h2 x hx).1.flat (hf x hx),(h2 x hx).2⟩⟩
 | boxt t l=>
  obtain⟨B,rfl,h1,h2⟩:=h
  exact⟨B,rfl,h1,fun x hx=>⟨(h2 x hx).1.flat (hf x hx),(h2 x hx).2⟩⟩
 | arr e sz cap rows=>
  rcases h with h|⟨B,cs,rfl,h1,h2,hm2,h3,h4,h5⟩
  ·exact .inl h
  ·exact .inr ⟨B,cs,rfl,h1,h2,hm2,h3,fun row hr=>⟨(h4 row hr).1,fun u hu=>⟨by obtain⟨v,rfl⟩:=hf row hr u hu;exact .s v,((h4 row hr).2 u hu).2⟩⟩,h5⟩
 | map es ck=>
  obtain⟨B,ms,rfl,h1,h2,h3⟩:=h
  exact⟨B,ms,rfl,h1,h2,fun e he=>by obtain⟨v,hv⟩:=hf e he;rw[hv];exact .s v⟩
 | _=>exact hf.elim
def SameS (H0 H:List OB):Prop:=∃ext,H.map OB.shp=H0.map OB.shp++ext∧∀k∈ext,k≠2
theorem SameS.len {H0 H:List OB} (h:SameS H0 H):H0.length≤H.length:=by
 obtain⟨ext,h,_⟩:=h
 have:=congrArg List.length h
 simp at this;omega
theorem SameS.at_ {H0 H:List OB} (h:SameS H0 H) {i:Nat} {o0:OB} (h0:H0[i]?=some o0):∃o,H[i]?=some o∧o.shp=o0.shp:=by
 obtain⟨ext,h,_⟩:=h
 have:=congrArg (fun l=>l[i]?) h
 simp only[List.getElem?_map] at this
 rw[List.getElem?_append_left (by simpa using (List.getElem?_eq_some_iff.1 h0).1)] at this
 simp only[List.getElem?_map,h0,Option.map_some] at this
 cases hi:H[i]? with
 | none=>rw[hi] at this;cases this
 | some o=>rw[hi] at this;simp only[Option.map_some,Option.some.injEq] at this;exact⟨o,rfl,this⟩
theorem SameS.map {H0 H:List OB} (h:SameS H0 H) {i:Nat} {o:OB} (ho:H[i]?=some o) (h2:o.shp=2):∃o0,H0[i]?=some o0∧o0.shp=2:=by
 obtain⟨ext,h,hx⟩:=h
 have:=congrArg (fun l=>l[i]?) h
 simp only[List.getElem?_map,ho,Option.map_some,h2] at this
 rw[List.getElem?_append] at this
 split at this
 ·rename_i hl
  rw[List.getElem?_map] at this
  cases h0:H0[i]? with
  | none=>rw[h0] at this;cases this
  | some o0=>rw[h0] at this;simp only[Option.map_some,Option.some.injEq] at this;exact⟨o0,rfl,this.symm⟩
 ·exact absurd rfl (hx 2 (List.mem_of_getElem? this.symm))
theorem zf8 {w W:World} {S S0:Nat→Prop} {ρ ρ0:List (Option Nat)} {H H0:List OB} (hf:FlatH H0 H) (hs:SameS H0 H) (hp:RH W S ρ H) (hp0:RH w S0 ρ0 H0)
    (hat:∀(i:Nat) (o:OB),H0[i]?=some o→o.shp≠0→atB ρ i=atB ρ0 i) {i r:Nat} {o:Obj} (hi:atB ρ i=some r) (ho:W.heap[r]?=some o) (hc:o.isCells=false):r < w.heap.size:=by
 have hlt:i < H.length:=by rw[←hp.len];exact zJ4 hi
 obtain⟨ob,hob⟩:∃ob,H[i]?=some ob:=⟨_,List.getElem?_eq_getElem hlt⟩
 have hb:=hp.blk i ob hob
 rw[hi] at hb
 have hcell:∀{cs:Array Value} {t:TypeId} {z:Nat × Nat},W.heap[r]?=some (.cells cs t z)→False:=fun h=>by rw[h] at ho;cases ho;cases hc
 have hbox:∀{l:List AV},OwnB W S ρ H (.box l) (some r)→False:=fun⟨B,t,hB,h,_⟩=>by cases hB;exact hcell h
 rcases hf i ob hob with h3|⟨⟨xs,rfl⟩,_⟩
 ·cases ob with
  | arr e sz cap rows=>
   rcases hb with⟨h,_⟩|⟨B,cs,hB,h4,_⟩
   ·cases h
   ·cases hB;exact(hcell h4).elim
  | box l=>exact(hbox hb).elim
  | boxt t l=>obtain⟨B,hB,h,_⟩:=hb;cases hB;exact(hcell h).elim
  | map es ck=>
   obtain⟨o0,h1,h2⟩:=hs.map hob rfl
   exact hp0.lt i r ((hat i o0 h1 (by rw[h2];decide)).symm.trans hi)
  | _=>exact h3.elim
 ·exact(hbox hb).elim
section
variable {P:Program} {N:Nat} {E E2:Env} {F F1:Fm} {H H1:List OB} {S S1:Nat→Prop} {ρ ρ1:List (Option Nat)} {a a1:Act} {w w' W:World}
theorem R.grown (h:R N E S ρ F H a w) {row:Option Nat} (hg:w.grownBy w' row) (hd:w.drawn≤w'.drawn) (hrow:∀r,row=some r→E.w0.heap.size≤r∧¬S r∧(∀i,atB ρ i≠some r)∧∀i k,¬inP H i k r):R N E S ρ F H a w':=by
 have hb:∀b,b < w.heap.size→(∀r,row=some r→b≠r)→w'.heap[b]?=w.heap[b]?:=fun b hb hn=>hg.block b hb (fun e=>hn b e.symm rfl)
 have hS:∀b,S b→S b∧w'.heap[b]?=w.heap[b]?:=fun b hs=>⟨hs,hb b (h.hp.sS b hs) (fun r hr e=>(hrow r hr).2.1 (e▸hs))⟩
 have hB:∀i B,atB ρ i=some B→w'.heap[B]?=w.heap[B]?:=fun i B hi=>hb B (h.hp.lt i B hi) (fun r hr e=>(hrow r hr).2.2.1 i (e▸hi))
 have hP:∀i k B,inP H i k B→w'.heap[B]?=w.heap[B]?:=fun i k B hi=>hb B (h.hp.pl.ps i k B hi).2.2 (fun r hr e=>(hrow r hr).2.2.2 i k (e▸hi))
 exact⟨h.df,h.sz,fun i x hx=>⟨(h.fr i x hx).1,(h.fr i x hx).2.ex (Ex.refl _ _) hS⟩,
  ⟨h.hp.len,h.hp.nd,h.hp.ap,fun i B hi=>Nat.lt_of_lt_of_le (h.hp.lt i B hi) hg.size,fun b hs=>Nat.lt_of_lt_of_le (h.hp.sS b hs) hg.size,fun i o ho=>(h.hp.blk i o ho).ex (Ex.refl _ _) hS (fun B hB'=>hB i B hB') (fun k B hk=>hP i k B ⟨o,ho,hk⟩),h.hp.pl.same (fun _ _ _ h=>h) hg.size⟩,
  ⟨hg.os.trans h.st.os,hg.tape.trans h.st.tape,hg.output.trans h.st.output,Nat.le_trans h.st.size hg.size,fun b hb' hn=>(hb b (Nat.lt_of_lt_of_le hb' h.st.size) (fun r hr e=>by have:=(hrow r hr).1;omega)).trans (h.st.block b hb' hn),Nat.le_trans h.st.drawn hd⟩,
  h.nw,h.nS,h.pw,h.ln,h.pn⟩
end
def KpB (B:Nat) (v:Value) (S0:Nat→Prop) (W W':World):Prop:=((∃t,W.heap[B]?=some (.cells #[v] t (0,0)))→∃t,W'.heap[B]?=some (.cells #[v] t (0,0)))∧∀b,S0 b→W'.heap[b]?=W.heap[b]?
def SeqK {α:Type} (P:Program) (gf:FuncId) (encs:α→Array Value) (XS:List α) (v:Value) (rows:List (List CV)):Prop:=
 ∀(w:World) (S0:Nat→Prop) (B:Nat),(∃t,w.heap[B]?=some (.cells #[v] t (0,0)))→Good w S0 (.r v rows)→¬S0 B→(∀b,S0 b→b < w.heap.size)→∀(l:Nat) (J:Nat→World→Prop) (W:World),KpB B v S0 w W→(∀k W,J k W→J k W.drew) →
  (∀k x W1,XS[k]?=some x→J k W1→YieldAt Fence.wide 0 P l (encs x) W1 fun e W'=>e = .returned (.bool true)∧J (k+1) W'∧KpB B v S0 W1 W')→J 0 W →
  CallsIn Fence.wide 1 P gf (#[.func (.yield l) #[] #[]]++#[.pointer (some ⟨B,0,none⟩)]) W fun e W'=>(∃v,e = .returned v)∧J XS.length W'
def stb (H:List OB):AV→Bool
 | .c _=>true
 | .p b _ _=>match H[b]? with
  | some (.box _)=>true
  | _=>false
 | .mp b=>match H[b]? with
  | some (.map _ _)=>true
  | _=>false
 | _=>false
inductive KeepL (F:Fm) (H:List OB):Fm→Prop where
 | nil:KeepL F H []
 | cons {i:Nat} {x:AV} {l:Fm} (h:F.lookup i=some x) (hs:stb H x=true) (t:KeepL F H l):KeepL F H ((i,x) :: l)
theorem KeepL.get {F:Fm} {H:List OB} {l:Fm} (h:KeepL F H l):∀i x,l.lookup i=some x→F.lookup i=some x∧stb H x=true:=by
 induction h with
 | nil=>intro i x hx;cases hx
 | @cons j y l h hs _ ih=>
  intro i x hx
  rw[List.lookup_cons] at hx
  split at hx
  ·rename_i hij
   have:i=j:=by simpa using hij
   subst this
   cases hx
   exact⟨h,hs⟩
  ·exact ih i x hx
theorem stb_ok {w W:World} {S0:Nat→Prop} {ρ0 ρ:List (Option Nat)} {H0 H:List OB} (hat:∀(i:Nat) (o:OB),H0[i]?=some o→o.shp≠0→atB ρ i=atB ρ0 i) (hs:SameS H0 H) (hS:∀b,S0 b→W.heap[b]?=w.heap[b]?)
    {x:AV} (hx:stb H0 x=true) (hw:WF w S0 ρ0 H0 x):x.den ρ0 H0=x.den ρ H∧WF W S0 ρ H x:=by
 have hlen:=hs.len
 cases x with
 | c u=>cases hw with|c hg=>exact⟨rfl,.c (hg.mono fun b hb=>⟨hb,hS b hb⟩)⟩
 | p b k j=>
  cases hw with
  | p h0 h=>
   simp only[stb] at hx
   split at hx
   ·rename_i l hl
    obtain⟨o,ho,h2⟩:=hs.at_ hl
    have ha:=hat b _ hl (fun h=>by cases h)
    have hz:szAt H b=szAt H0 b:=by
     unfold szAt
     rw[ho,hl]
     cases o <;> first|rfl|cases h2
    exact⟨by simp only[AV.den,ha,hz],.p (by omega) (by rw[ha];exact h)⟩
   ·cases hx
 | mp b=>
  cases hw with
  | mp h0 h=>
   simp only[stb] at hx
   split at hx
   ·rename_i es ck hl
    have ha:=hat b _ hl (fun h=>by cases h)
    exact⟨by simp only[AV.den,ha],.mp (by omega) (by rw[ha];exact h)⟩
   ·cases hx
 | _=>cases hx
structure RS (N:Nat) (E:Env) (w:World) (S0:Nat→Prop) (ρ0:List (Option Nat)) (H0:List OB) (S:Nat→Prop) (ρ:List (Option Nat)) (F:Fm) (H:List OB) (a:Act) (W:World):Prop where
 fl:FlatH H0 H
 sh:SameS H0 H
 at_:∀(i:Nat) (o:OB),H0[i]?=some o→o.shp≠0→atB ρ i=atB ρ0 i
 Sm:∀b,S0 b→W.heap[b]?=w.heap[b]?
 sub:∀b,S0 b→S b
 rr:R N E S ρ F H a W
section
variable {P:Program} {N:Nat} {E E2:Env} {F F0 F1:Fm} {H H0:List OB} {S S0:Nat→Prop} {ρ ρ0:List (Option Nat)} {a a0:Act} {w w' W:World}
theorem RS.notown (h:RS N E w S0 ρ0 H0 S ρ F H a W) (hp0:RH w S0 ρ0 H0) {r:Nat} {o:Obj} (hr:w.heap.size≤r) (ho:W.heap[r]?=some o) (hc:o.isCells=false):¬S0 r∧(∀i,atB ρ i≠some r)∧∀i k,¬inP H i k r:=
 ⟨fun hs=>by have:=hp0.sS r hs;omega,fun i hi=>by have:=zf8 h.fl h.sh h.rr.hp hp0 h.at_ hi ho hc;omega,fun i k hk=>zO h.fl hk⟩
theorem RS.code (hp0:RH w S0 ρ0 H0) (hs:RS N E w S0 ρ0 H0 S ρ F H a W) {rd:Option Nat} {a2:Act} {S':Nat→Prop} {ρ':List (Option Nat)} {F':Fm} {H':List OB} {a':Act} {W':World}
    (hR':R N ⟨W,S,ρ,H,E.pin,rd,a2.defers⟩ S' ρ' F' H' a' W') (hfl':FlatH H0 H') (hsh':SameS H0 H') :
    (a'.defers=E.dfs→RS N E w S0 ρ0 H0 (fun b=>S' b∨S0 b) ρ' F' H' a' W')∧(∀a0:Act,a0.defers=E.dfs→N≤a0.tmps.size→RS N E w S0 ρ0 H0 S0 ρ' [] H' a0 W')∧(∀b,S0 b→W'.heap[b]?=W.heap[b]?)∧KeepsFrom w.heap.size W W'∧(∀b,S' b→S b∨W.heap.size≤b):=by
 have hst:=hR'.st
 have hEW:∀r,Env.W ⟨W,S,ρ,H,E.pin,rd,a2.defers⟩ r→∃i,atB ρ i=some r:=fun r hr=>by
  rcases hr with h|⟨i,k',h⟩
  ·exact h
  ·exact(zO hs.fl h).elim
 have hSW:∀b',S0 b'→W'.heap[b']?=W.heap[b']?:=fun b' hb2=>hst.block b' (hs.rr.hp.sS b' (hs.sub b' hb2)) fun h=>by obtain⟨i,h⟩:=hEW b' h;exact hs.rr.hp.ap i b' h (hs.sub b' hb2)
 have hat':∀(i:Nat) (o:OB),H0[i]?=some o→o.shp≠0→atB ρ' i=atB ρ0 i:=fun i o ho hn=>by
  obtain⟨o1,ho1,g2⟩:=hs.sh.at_ ho
  have:=((hR'.ln i (List.getElem?_eq_some_iff.1 ho1).1).2 o1 ho1 (by rw[g2];exact hn)).1
  exact this.trans (hs.at_ i o ho hn)
 have hap:∀i B',atB ρ' i=some B'→¬S0 B':=fun i B' hi2 hb2=>by
  rcases hR'.nw i B' hi2 with(h|⟨i',k',h⟩)|⟨_,h⟩
  ·have:=hs.rr.hp.sS B' (hs.sub B' hb2);change W.heap.size≤B' at h;omega
  ·exact zO hs.fl h
  ·exact hs.rr.hp.ap i B' h (hs.sub B' hb2)
 have hS0l:∀b,S0 b→b < W'.heap.size:=fun b' hb2=>Nat.lt_of_lt_of_le (hs.rr.hp.sS b' (hs.sub b' hb2)) hst.size
 have hS0n:∀b,S0 b→E.S0 b∨(E.w0.heap.size≤b∨∃i k,inP E.H0 i k b):=fun b hb=>hs.rr.nS b (hs.sub b hb)
 have hreb:∀(a3:Act) (F3:Fm),a3.defers=E.dfs→N≤a3.tmps.size→(∀i x,F3.lookup i=some x→a3.tmps[i]?=some (x.den ρ' H')∧WF W' S' ρ' H' x)→R N E S' ρ' F3 H' a3 W':=fun a3 F3 h1 h2 h3=>
  R.rebase (E2:=⟨W,S,ρ,H,E.pin,rd,a2.defers⟩) hs.rr rfl rfl rfl rfl rfl hR' h1 h2 h3
 refine⟨fun hd=>?_,fun a0 hd hz=>?_,hSW,⟨hst.size,fun r o hr ho hc=>?_⟩,fun b hb=>?_⟩
 ·have hR2:=hreb a' F' hd hR'.sz hR'.fr
  have hmo:Mo W' S' W' (fun b=>S' b∨S0 b):=fun b hb=>⟨.inl hb,rfl⟩
  refine⟨hfl',hsh',hat',fun b' hb2=>(hSW b' hb2).trans (hs.Sm b' hb2),fun b hb=>.inr hb,R.ex hR2 (Ex.refl _ _) hmo ⟨hR2.hp.len,hR2.hp.nd,fun i B hi hb=>?_,hR2.hp.lt,fun b hb=>?_,fun i o ho=>(hR2.hp.blk i o ho).ex (Ex.refl _ _) hmo (fun _ _=>rfl) (fun _ _ _=>rfl),PL.none fun i k' B' h=>zO hfl' h⟩ hR2.st hR2.nw (fun b hb=>?_) hR2.pw⟩
  ·rcases hb with hb|hb
   ·exact hR2.hp.ap i B hi hb
   ·exact hap i B hi hb
  ·rcases hb with hb|hb
   ·exact hR2.hp.sS b hb
   ·exact hS0l b hb
  ·rcases hb with hb|hb
   ·exact hR2.nS b hb
   ·exact hS0n b hb
 ·have hR2:=hreb a0 [] hd hz (fun i x h=>(by cases h))
  refine⟨hfl',hsh',hat',fun b' hb2=>(hSW b' hb2).trans (hs.Sm b' hb2),fun b hb=>hb,hR2.df,hR2.sz,fun i x h=>(by cases h),⟨hR2.hp.len,hR2.hp.nd,hap,hR2.hp.lt,hS0l,fun i o ho=>?_,PL.none fun i k' B' h=>zO hfl' h⟩,hR2.st,hR2.nw,hS0n,hR2.pw,hR2.ln,hR2.pn⟩
  have hbo2:=hR2.hp.blk i o ho
  rcases hfl' i o ho with h|⟨⟨xs,rfl⟩,h⟩
  ·exact hbo2.flat h
  ·obtain⟨B2,t2,h3,h4,h5⟩:=hbo2
   refine⟨B2,t2,h3,h4,fun x hx=>⟨?_,(h5 x hx).2⟩⟩
   obtain⟨_,_,_,_,h6⟩:=hp0.blk i _ h
   have h7:=(h6 x hx).1
   obtain⟨u,hu,rfl⟩:=List.mem_map.1 hx
   cases h7 with|c h7=>exact .c (h7.mono fun b' hb2=>⟨hb2,(hSW b' hb2).trans (hs.Sm b' hb2)⟩)
 ·exact(hst.block r (Array.getElem?_eq_some_iff.1 ho).1 fun h=>by obtain⟨i,h⟩:=hEW r h;exact(hs.notown hp0 hr ho hc).2.1 i h).trans ho
 ·rcases hR'.nS b hb with h|h|⟨i,k',h⟩
  ·exact .inl h
  ·exact .inr h
  ·exact(zO hs.fl h).elim
def AWf (P:Program) (fn:Func) (N:Nat) (E:Env) (c:Code) (F:Fm) (H:List OB) (Q:AV→List OB→Prop):Prop:=∀S ρ a w,R N E S ρ F H a w→c.wp P (bodyPostM Fence.wide 0 P fn (postE E Q)) a w
def RFy (P:Program) (fn:Func) (N:Nat) (E:Env) (c y:Code) (F:Fm) (H:List OB) (Q:AV→List OB→Prop):Prop:=∀S ρ a w,R N E S ρ F H a w→c.wp P (fun e a' w'=>e = .normal∧y.wp P (bodyPostM Fence.wide 0 P fn (postE E Q)) a' w') a w
theorem zs8 {fn:Func} {x y:Code} {Q:AV→List OB→Prop} {K:Fm→List OB→Prop} (hrd:E.rd=none) (h:AW P N E x F H fun e F' H'=>e = .normal∧K F' H') (hk:∀F' H',K F' H'→AWf P fn N E y F' H' Q):AWf P fn N E (.seq x y) F H Q:=fun S ρ a w hR=>by
 have h1:=h S ρ a w hR 0
 rw[show E.fc=Fence.wide by unfold Env.fc;rw[hrd]] at h1
 refine wp_seq (wp_mono (wpIn_wide.1 h1) fun e a' w' hh=>?_)
 obtain⟨S',ρ',F',H',⟨rfl,hq⟩,hR'⟩:=hh
 exact hk F' H' hq S' ρ' a' w' hR'
theorem awf_rfy {fn:Func} {x y:Code} {Q:AV→List OB→Prop} (h:RFy P fn N E x y F H Q):AWf P fn N E (.seq x y) F H Q:=fun S ρ a w hR=>
 wp_seq (wp_mono (h S ρ a w hR) fun e a' w' ⟨he,hh⟩=>by subst he;exact hh)
theorem rfy_seq {fn:Func} {x c y:Code} {Q:AV→List OB→Prop} {K:Fm→List OB→Prop} (hrd:E.rd=none) (h:AW P N E x F H fun e F' H'=>e = .normal∧K F' H') (hk:∀F' H',K F' H'→RFy P fn N E c y F' H' Q):RFy P fn N E (.seq x c) y F H Q:=fun S ρ a w hR=>by
 have h1:=h S ρ a w hR 0
 rw[show E.fc=Fence.wide by unfold Env.fc;rw[hrd]] at h1
 refine wp_seq (wp_mono (wpIn_wide.1 h1) fun e a' w' hh=>?_)
 obtain⟨S',ρ',F',H',⟨rfl,hq⟩,hR'⟩:=hh
 exact hk F' H' hq S' ρ' a' w' hR'
theorem zy10 {fn:Func} {id:Nat} {c y:Code} {Q:AV→List OB→Prop} (h:RFy P fn N E c y F H Q):RFy P fn N E (.block id c) y F H Q:=fun S ρ a w hR=>
 wp_block (wp_mono (h S ρ a w hR) fun e a' w' ⟨he,hh⟩=>by subst he;exact⟨rfl,hh⟩)
theorem za10 {f:FuncId} {fn:Func} {c:Code} {args:List AV} {Q:AV→List OB→Prop} (hf:P.funcs[f]?=some fn) (hb:fn.body=some c) (hN:fn.ntmps=N) (hl:args.length≤N) (h:∀E:Env,E.H0.length=H.length→E.pin=false→E.rd=none→E.dfs = []→AWf P fn N E c (enumF 0 args) H Q):ACalls P f args H Q:=fun S ρ w hp hw=>by
 let E:Env:=⟨w,S,ρ,H,false,none,[]⟩
 have hR:R N E S ρ (enumF 0 args) H { tmps:=(args.map (AV.den ρ H)).toArray++Array.replicate (fn.ntmps - (args.map (AV.den ρ H)).toArray.size) undef,defers:=[] } w:=by
  refine⟨rfl,by simp[hN];omega,fun i x hi=>?_,hp,Stp.refl _ _,fun i B hi=>.inr ⟨by rw[←hp.len];exact zJ4 hi,hi⟩,fun b hb=>.inl hb,fun i k B hi=>.inr ⟨i,k,hi⟩,fun i hi=>⟨hi,fun o ho _=>⟨rfl,o,ho,rfl⟩⟩,fun _ i hi=>⟨rfl,rfl,rfl⟩⟩
  obtain⟨_,h2⟩:=zt5 args 0 i x hi
  rw[Nat.sub_zero] at h2
  have hlt:i < args.length:=(List.getElem?_eq_some_iff.1 h2).1
  refine⟨?_,hw x (List.mem_of_getElem? h2)⟩
  rw[Array.getElem?_append_left (by simpa using hlt)]
  simp[h2]
 exact callsIn_wide.1 (callsIn_of_wp_marks hf hb trivial (wpIn_wide.2 (h E rfl rfl rfl rfl S ρ _ w hR)))
def putsF:List Tmp→List AV→Fm→Fm
 | p :: ps,x :: xs,F=>putsF ps xs ((p,x) :: F)
 | _,_,F=>F
theorem zO10 {S:Nat→Prop} {ρ:List (Option Nat)} {H:List OB} {w:World}:∀(ps:List Tmp) (xs:List AV) (F:Fm) (t:Array Value),(∀p∈ps,p < N)→(∀x∈xs,WF w S ρ H x)→R N E S ρ F H { tmps:=t,defers:=a.defers } w →
    R N E S ρ (putsF ps xs F) H { tmps:=(ps.zip (xs.map (AV.den ρ H))).foldl (fun t e=>t.setIfInBounds e.1 e.2) t,defers:=a.defers } w
 | [],xs,F,t,_,_,h=>h
 | _ :: _,[],F,t,_,_,h=>h
 | p :: ps,x :: xs,F,t,hp,hx,h=>zO10 ps xs ((p,x) :: F) _ (fun q hq=>hp q (List.mem_cons_of_mem _ hq)) (fun y hy=>hx y (List.mem_cons_of_mem _ hy)) (h.put (hp p List.mem_cons_self) (hx x List.mem_cons_self))
theorem rfy_rf {α:Type} {fn:Func} {t:Nat} {gf:FuncId} {b:Nat} {v:Value} {rows:List (List CV)} {ps:List Tmp} {assign body y:Code} {Q:AV→List OB→Prop}
    (hrd:E.rd=none) (hdf:E.dfs = []) (ht:F0.lookup t=some (.f (.func gf) [.p b 0 0])) (hb:H0[b]?=some (.box [.c (.r v rows)])) (hgf:okFn P gf=true)
    (vals:α→List AV) (encs:α→List Value) (henc:∀x ρ H,(vals x).map (AV.den ρ H)=encs x) (hflat:∀x w S ρ H,∀y∈vals x,WF w S ρ H y) (XS:List α) (hps:∀x,(encs x).length=ps.length) (hpN:∀p∈ps,p < N)
    (hseq:SeqK P gf (fun x=>(encs x).toArray) XS v rows) (F1:Fm) (hF1:KeepL F0 H0 F1) (Inv:Nat→List OB→Prop)
    (hinv:∀k H,Inv k H→FlatH H0 H∧SameS H0 H∧H[b]?=some (.box [.c (.r v rows)])) (h0:Inv 0 H0) (KA:Nat→α→Fm→List OB→Prop) (hKA:∀k x F H,KA k x F H→FlatH H0 H∧SameS H0 H∧H[b]?=some (.box [.c (.r v rows)]))
    (J:Nat→Fm→List OB→Prop) (hassign:∀(E3:Env) k x H,E3.H0=H→E3.pin=E.pin→XS[k]?=some x→Inv k H→AW P N E3 assign (putsF ps (vals x) F1) H fun e F' H'=>e = .normal∧KA k x F' H')
    (hbody:∀(E3:Env) k x F H,E3.H0=H→E3.pin=E.pin→XS[k]?=some x→KA k x F H→AW P N E3 body F H fun e F' H'=>e = .normal∧J (k+1) F' H')
    (hJ:∀k F H,J k F H→FlatH H0 H∧SameS H0 H∧H[b]?=some (.box [.c (.r v rows)])) (hdrop:∀(E5:Env) k F H,E5.H0=H0→E5.pin=E.pin→J k F H→Wk N E5 [] H fun _ H=>Inv k H)
    (hy:∀(E2:Env) H,E2.H0=H→E2.pin=E.pin→Inv XS.length H→AW P N E2 y F1 H (ARet P fn E.H0.length Q)) :
    RFy P fn N E (.rangeFunc (.tmp t) ps.toArray assign body) y F0 H0 Q:=fun S0 ρ0 a0 w hR=>by
 have hp0:=hR.hp
 obtain⟨h1,h2⟩:=hR.ev (x:=.tmp t) ht
 obtain⟨B,tb,hB,hBw,hBx⟩:=hp0.blk b _ hb
 have hgood:Good w S0 (.r v rows):=by
  have:=(hBx (.c (.r v rows)) (by simp)).1
  cases this with|c h=>exact h
 have hval:a0.eval (.tmp t) = .func (.func gf) #[] #[.pointer (some ⟨B,0,none⟩)]:=by
  rw[h1]
  have hz:szAt H0 b=0:=by unfold szAt;rw[hb];rfl
  simp only[AV.den,AV.denL,hB,hz,Option.map_some,Nat.mul_zero,Nat.add_zero]
  rfl
 have hbl:B < w.heap.size:=hp0.lt b B hB
 have ha0:a0.defers = []:=hR.df.trans hdf
 let E5:Env:=⟨w,S0,ρ0,H0,E.pin,none,a0.defers⟩
 let I:Nat→World→Prop:=fun k W=>∃ρ H,Inv k H∧RS N E5 w S0 ρ0 H0 S0 ρ [] H a0 W
 have hs0:RS N E5 w S0 ρ0 H0 S0 ρ0 [] H0 a0 w:=by
  obtain⟨hfl,hsh,_⟩:=hinv _ _ h0
  exact⟨hfl,hsh,fun _ _ _ _=>rfl,fun _ _=>rfl,fun _ h=>h,hR.anew E.pin none a0 hR.sz fun i x h=>(by cases h)⟩
 have hI:∀k W W' row,I k W→W.grownBy W' row→W.drawn≤W'.drawn→(∀r,row=some r→w.heap.size≤r∧∃o:Obj,W.heap[r]?=some o∧o.isCells=false)→I k W':=by
  rintro k W W' row ⟨ρ,H,hi,hs⟩ hg hd hrow
  have hno:=fun r (hr:row=some r)=>let ⟨o,ho,hc⟩:=(hrow r hr).2;hs.notown hp0 (hrow r hr).1 ho hc
  refine⟨ρ,H,hi,hs.fl,hs.sh,hs.at_,fun b' hb'=>?_,fun b h=>h,hs.rr.grown hg hd fun r hr=>⟨(hrow r hr).1,hno r hr⟩⟩
  exact(hg.block b' (hs.rr.hp.sS b' hb') (fun e=>(hno b' e.symm).1 hb')).trans (hs.Sm b' hb')
 have hbox:∀{S1:Nat→Prop} {ρ':List (Option Nat)} {F':Fm} {H':List OB} {a':Act} {W':World},H'[b]?=some (.box [.c (.r v rows)])→RS N E5 w S0 ρ0 H0 S1 ρ' F' H' a' W'→∃t,W'.heap[B]?=some (.cells #[v] t (0,0)):=fun hb' hs=>by
  obtain⟨B2,t2,h3,h4,_⟩:=hs.rr.hp.blk b _ hb'
  rw[hs.at_ b _ hb (fun h=>(by cases h)),hB] at h3
  cases h3
  exact⟨t2,h4⟩
 let Ax:Nat→Nat→α→Act→World→Prop:=fun l k x a' W=>∃S1 ρ F H,KA k x F H∧RS N E5 w S0 ρ0 H0 S1 ρ F H a' W∧¬S1 l
 refine zH9 (gf:=gf) (lb:=#[.pointer (some ⟨B,0,none⟩)]) hval (fun _ _=>zF1 hgf) (fun x=>(encs x).toArray) XS (fun x=>by simpa using hps x) I (KpB B v S0) ?_ ?_ hI ?_ ?_ Ax ?_ ?_ ?_ ?_
 ·rintro A B' C ⟨h3,h4⟩ ⟨h5,h6⟩
  exact⟨fun h=>h5 (h3 h),fun b' hb2=>(h6 b' hb2).trans (h4 b' hb2)⟩
 ·intro W W' row hg hrow hsz
  refine⟨fun⟨t',h⟩=>⟨t',(hg.block B (by omega) (fun e=>by have:=hrow B e.symm;omega)).trans h⟩,fun b' hb2=>?_⟩
  have:=hp0.sS b' hb2
  exact hg.block b' (by omega) (fun e=>by have:=hrow b' e.symm;omega)
 ·intro l J W hk hJ hr hJ0
  exact hseq w S0 B ⟨tb,hBw⟩ hgood (hp0.ap b B hB) hp0.sS l J W hk hJ hr hJ0
 ·exact⟨ρ0,H0,h0,hs0⟩
 ·rintro l k x W r hx ⟨ρ,H,hi,hs⟩ hwl hl
  have hll:l < W.heap.size:=(Array.getElem?_eq_some_iff.1 hl).1
  have hstart:R N ⟨W,S0,ρ,H,E.pin,some l,[]⟩ S0 ρ F1 H { tmps:=a0.tmps,defers:=[] } W:=
   hs.rr.anew E.pin (some l) { tmps:=a0.tmps,defers:=[] } hR.sz fun i y hy=>by
    obtain⟨h3,h4⟩:=hF1.get i y hy
    obtain⟨h5,h6⟩:=hR.fr i y h3
    obtain⟨h7,h8⟩:=stb_ok hs.at_ hs.sh hs.Sm h4 h6
    exact⟨by rw[←h7];exact h5,h8⟩
  have h3:=zO10 (a:={ tmps:=a0.tmps,defers:=[] }) ps (vals x) F1 a0.tmps hpN (hflat x W S0 ρ H) hstart
  rw[henc] at h3
  have h4:=hassign ⟨W,S0,ρ,H,E.pin,some l,[]⟩ k x H rfl rfl hx hi S0 ρ _ W h3 0
  have e1:(ps.zip (encs x)).foldl (fun t e=>t.setIfInBounds e.1 e.2) a0.tmps=(ps.toArray.zip (encs x).toArray).foldl (fun t (p,v)=>t.setIfInBounds p v) a0.tmps:=by
   simp
  rw[e1] at h4
  refine wpIn_mono h4 ?_
  rintro e a' W' ⟨S',ρ',F',H',⟨rfl,hk⟩,hR'⟩
  obtain⟨g1,g2,g3⟩:=hKA _ _ _ _ hk
  obtain⟨c1,_,c3,c4,c5⟩:=RS.code hp0 hs (a2:={ tmps:=#[],defers:=[] }) hR' g1 g2
  have hrs:=c1 (hR'.df.trans ha0.symm)
  refine⟨rfl,⟨_,ρ',F',H',hk,hrs,fun h=>?_⟩,⟨fun _=>hbox g3 hrs,c3⟩,c4⟩
  rcases h with h|h
  ·rcases c5 l h with h|h
   ·have:=hp0.sS l h;omega
   ·omega
  ·have:=hp0.sS l h;omega
 ·rintro l k x a' W r o' ⟨S1,ρ,F,H,hk,hs,hnl⟩ hwl hl
  have hno:=hs.notown hp0 hwl hl rfl
  refine⟨S1,ρ,F,H,hk,⟨hs.fl,hs.sh,hs.at_,fun b' hb'=>?_,hs.sub,hs.rr.grown (grownBy_putObj' W l o') (Nat.le_refl _) fun r hr=>by cases hr;exact⟨hwl,hnl,hno.2⟩⟩,hnl⟩
  have:=hp0.sS b' hb'
  exact(World.putObj_heap_other (by omega)).trans (hs.Sm b' hb')
 ·rintro l k x a' W hx ⟨S1,ρ,F,H,hk,hs,hnl⟩
  have hstart:R N ⟨W,S1,ρ,H,E.pin,some l,a'.defers⟩ S1 ρ F H a' W:=hs.rr.anew E.pin (some l) a' hs.rr.sz hs.rr.fr
  refine wpIn_mono (hbody ⟨W,S1,ρ,H,E.pin,some l,a'.defers⟩ k x F H rfl rfl hx hk S1 ρ _ W hstart 0) ?_
  rintro e a2 W' ⟨S',ρ',F',H',⟨rfl,hi'⟩,hR'⟩
  obtain⟨g1,g2,g3⟩:=hJ _ _ _ hi'
  obtain⟨_,c2,c3,c4,_⟩:=RS.code hp0 hs hR' g1 g2
  have hrs:=c2 a0 rfl hR.sz
  obtain⟨S2,ρ2,F2,H2,hi2,hR2⟩:=hdrop E5 _ _ _ rfl rfl hi' S0 ρ' a0 W' hrs.rr
  obtain⟨f1,f2,_⟩:=hinv _ _ hi2
  obtain⟨_,d2,_,_,_⟩:=RS.code hp0 hs0 (a2:=a0) hR2 f1 f2
  exact⟨rfl,⟨ρ2,H2,hi2,d2 a0 rfl hR.sz⟩,⟨fun _=>hbox g3 hrs,c3⟩,c4⟩
 ·rintro D W hD ⟨ρ,H,hi,hs⟩ hd
  obtain⟨hfl,hsh,_⟩:=hinv _ _ hi
  have hnD:=hs.notown hp0 hD hd rfl
  have hDl:D < W.heap.size:=(Array.getElem?_eq_some_iff.1 hd).1
  let a2:Act:={ a0 with defers:={ target:=.collected D,args:=#[] } :: a0.defers }
  have hstart:R N ⟨W,S0,ρ,H,E.pin,none,a2.defers⟩ S0 ρ F1 H a2 W:=
   hs.rr.anew E.pin none a2 hR.sz fun i y hy=>by
    obtain⟨h3,h4⟩:=hF1.get i y hy
    obtain⟨h5,h6⟩:=hR.fr i y h3
    obtain⟨h7,h8⟩:=stb_ok hs.at_ hs.sh hs.Sm h4 h6
    exact⟨by rw[←h7];exact h5,h8⟩
  refine⟨rfl,wp_mono (wpIn_wide.1 (hy ⟨W,S0,ρ,H,E.pin,none,a2.defers⟩ H rfl rfl hi S0 ρ a2 W hstart 0)) ?_⟩
  rintro e a' W' ⟨S',ρ',F',H',hq,hR'⟩
  have hEW:∀r,Env.W ⟨W,S0,ρ,H,E.pin,none,a2.defers⟩ r→∃i,atB ρ i=some r:=fun r hr=>by
   rcases hr with h|⟨i,k',h⟩
   ·exact h
   ·exact(zO hfl h).elim
  have hd':W'.heap[D]?=some (.deferred (some [])):=(hR'.st.block D hDl fun h=>by obtain⟨i,h⟩:=hEW D h;exact hnD.2.1 i h).trans hd
  have hS':¬S' D:=fun h=>by
   rcases hR'.nS D h with h|h|⟨i,k',h⟩
   ·exact hnD.1 h
   ·change W.heap.size≤D at h;omega
   ·exact zO hfl h
  have hρ':∀i,atB ρ' i≠some D:=fun i h=>by
   rcases hR'.nw i D h with(h|⟨i',k',h⟩)|⟨_,h⟩
   ·change W.heap.size≤D at h;omega
   ·exact zO hfl h
   ·exact hnD.2.1 i h
  have hP':∀i k,¬inP H' i k D:=fun i k h=>by
   rcases hR'.pw i k D h with h|⟨i',k',h⟩
   ·change W.heap.size≤D at h;omega
   ·exact zO hfl h
  have hR2:R N E S' ρ' F' H' { a' with defers:=[] } W':=R.rebase (E2:=E5) hR rfl rfl rfl rfl rfl (R.rebase (E2:=⟨W,S0,ρ,H,E.pin,none,a2.defers⟩) hs.rr rfl rfl rfl rfl rfl hR' (a':={ a' with defers:=a0.defers }) rfl hR'.sz hR'.fr) (a':={ a' with defers:=[] }) (by rw[hdf]) hR'.sz hR'.fr
  have hR3:R N E S' ρ' F' H' { a' with defers:=[] } (W'.putObj D (.deferred none)):=
   hR2.grown (grownBy_putObj' W' D _) (Nat.le_refl _) fun r hr=>by cases hr;exact⟨Nat.le_trans hR.st.size hD,hS',hρ',hP'⟩
  have hfin:=zz10 (E:=E) hq hR3
  have hdf':a'.defers = [{ target:=.collected D,args:=#[] }]:=by
   have:=hR'.df
   simp only[a2,ha0] at this
   exact this
  have hl:LeavesInM Fence.wide 0 P fn a'.tmps (postE E Q) a'.defers .returning W':=by
   rw[hdf']
   exact⟨by simp,.inl ⟨D,_,rfl,run_takeDeferred hd',hfin⟩⟩
  have hx:=hq.1
  rcases hx with rfl|rfl
  ·exact hl
  ·exact hl
end
end Go.Proofs.YtophoepbedlhjaaGreatDoor
