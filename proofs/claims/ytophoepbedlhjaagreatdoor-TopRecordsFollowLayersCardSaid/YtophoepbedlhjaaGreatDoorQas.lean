/- strings.Trim with a set of ASCII letters, by value. -/
import Derived.Test.YtophoepbedlhjaaGreatDoorQan
import Derived.Laws.IdiomStrings
import Derived.Laws.BytesString
import Derived.Laws.Externs
import Derived.Test.YtophoepbedlhjaaGreatDoorQao
import Derived.Test.YtophoepbedlhjaaGreatDoorQal
import Derived.Test.YtophoepbedlhjaaGreatDoorQap
set_option linter.unusedSimpArgs false
set_option linter.unusedVariables false
namespace Go.Proofs.YtophoepbedlhjaaGreatDoor
open Go Go.RowKit
section
variable {P:Program} {N:Nat} {E:Env} {F:Fm} {H:List OB} {o:Oper} {S:Nat→Prop} {ρ:List (Option Nat)} {a:Act} {w:World} {t:TypeId} {x y:Operand}
theorem rd_ext {f:FuncId} {fn:Func} {args:Array Operand} {tys:Array TypeId} {vs:List AV} {us:List Value} {r:Value} {e:Array Value→Sem Value} (ho:o.op = .call { callee:=.value (.func f),args:=args,argTypes:=tys }) (hargs:evL F args.toList=some vs) (hus:∀ρ H,vs.map (AV.den ρ H)=us)
    (hf:P.funcs[f]?=some fn) (hname:(fn.name == "runtime.NumGoroutine")=false) (hb:fn.body.isNone=true) (hn:Extern.findNext fn=none) (he:Extern.find fn=some e) (hr:∀w,(e us.toArray).run P w = .ok r w):Rd P N E o F H (.c (.s r)):=fun S ρ a w hR=>by
 obtain⟨h1,_⟩:=zT4 hR hargs
 rw[hus] at h1
 have h2:args.map a.eval=us.toArray:=by
  apply Array.ext'
  simpa using h1
 refine⟨?_,.c (.s _)⟩
 have h3:a.eval (.func f) = .func (.func f) #[] #[]:=rfl
 simp[execOp,ho,resolve,h2,h3,Deferred.ofValue,invoke,run_callFunc_extern hf hname hb hn he,hr,AV.den,CV.den]
def idxB (c:UInt8):List UInt8→Nat→Int
 | [],_=>-1
 | b :: l,i=>if b=c then i else idxB c l (i+1)
theorem zu7 {l:List UInt8} {c:UInt8}:∀(n i:Nat),i+n=l.length→(match (List.range' i n).find? (fun i=>(bst l)[i]! == c) with|some i=>(i:Int)|none=>-1)=idxB c (l.drop i) i
 | 0,i,h=>by rw[List.drop_eq_nil_of_le (by omega)];rfl
 | n+1,i,h=>by
  have hi:i < l.length:=by omega
  rw[List.drop_eq_getElem_cons hi,List.range'_succ,List.find?_cons]
  have hg:(bst l)[i]! = l[i]:=by
   have h2:i < (bst l).size:=by rw[zi1];exact hi
   rw[getElem!_pos (bst l) i h2]
   rfl
  rw[hg,idxB]
  by_cases hc:l[i]=c
  ·rw[if_pos hc,hc];simp
  ·rw[if_neg hc,show (l[i] == c)=false by simpa using hc]
   exact zu7 n (i+1) (by omega)
theorem zs5 (l:List UInt8) (c:UInt8):firstIdx (bst l) c=idxB c l 0:=by
 have:=zu7 (l:=l) (c:=c) l.length 0 (by omega)
 rw[List.drop_zero] at this
 rw[←this]
 unfold firstIdx
 rw[zi1,List.range_eq_range']
 cases (List.range' 0 l.length).find? fun i=>(bst l)[i]! == c <;> rfl
theorem idxB_neg {c:UInt8}:∀{l:List UInt8} {i:Nat},(0≤idxB c l i↔c∈l)
 | [],i=>by simp[idxB]
 | b :: l,i=>by
  unfold idxB
  split
  ·rename_i h;simp[h]
  ·rename_i h;rw[idxB_neg];simp[Ne.symm h]
end
end Go.Proofs.YtophoepbedlhjaaGreatDoor
namespace Go.Proofs.YtophoepbedlhjaaGreatDoor
open Go Go.RowKit
set_option maxRecDepth 100000
section
variable {P:Program} {N:Nat} {E:Env} {F:Fm} {H:List OB} {o:Oper}
theorem ef_bslr {t e:TypeId} {sz n d:Nat} {ps:Array (Nat × Operand)} {rows:List (List CV)} {z:Value} (ho:o.op = .buildSlice t n ps) (hd:o.dst=some d) (hN:d < N) (ht:elemSz P t=some (e,sz)) (hp:Parts F 0 ps.toList rows) (hn:rows.length=n)
    (hz:(P.info? e).bind (·.zero)=some z) (hzs:z.cells.size=sz) (hr:rows.all (fun row=>row.length == sz && row.all CV.one)=true) (hle:n*sz≤16777216) (hnm:n≤16777216) :
    Ef P N E o F H fun F' H'=>∃v,F'=(d,.c (.r v rows)) :: F∧H'=H:=fun S ρ a w hR=>by
 obtain⟨hu,i,hi,hs⟩:=zq ht
 have hu':(underlying t).run P w = .ok (.slice e) w:=by unfold underlying;simp[hu]
 have hsz:(sizeOf e).run P w = .ok sz w:=by simp[sizeOf,typeInfo,hi,hs]
 have hzr:(zeroValue e).run P w = .ok z w:=by
  unfold zeroValue typeInfo
  rw[hi] at hz
  simp only[Option.bind_some] at hz
  simp[hi,hz]
 subst hn
 have hr:∀row∈rows,row.length=sz∧∀u∈row,u.one=true:=by simpa using hr
 obtain⟨⟨cs',h1,h2,_,h4⟩,h5⟩:=zO5 (sz:=sz) hR hp ((Array.range (rows.length*sz)).map ((if rows.length*sz=0 then #[] else z.cells)[· % (if rows.length*sz=0 then #[] else z.cells).size]!)) (by simp) hr
 have hpm:(ps.map fun x=>(x.1,a.eval x.2)).toList=ps.toList.map fun x=>(x.1,a.eval x.2):=by simp
 have hlim:¬(rows.length*sz > 2 ^ 24):=by omega
 have hlim0:¬((0:Nat) > 2 ^ 24):=by decide
 have hex:(execOp a.eval o).run P w = .ok (.value (.slice (some ⟨w.heap.size,0,none⟩) rows.length rows.length)) (w.alloc (.cells cs' e)):=by
  by_cases hz0:rows.length*sz=0
  ·simp only[hz0,if_true] at h1
   simp only[execOp,ho,Instr.buildSlice,Sem.run_bind,hu',Result.andThen_ok,hsz,hlim0,if_false,hz0,if_true,Sem.run_pure,hpm,h1,newRow,run_newObj,World.alloc_eq]
  ·simp only[hz0,if_false] at h1
   simp only[execOp,ho,Instr.buildSlice,Sem.run_bind,hu',Result.andThen_ok,hsz,hlim,if_false,hz0,hzr,Sem.run_pure,hpm,h1,newRow,run_newObj,World.alloc_eq]
 unfold effO
 rw[hex]
 let S':Nat→Prop:=fun b=>S b∨b=w.heap.size
 have hmo:Mo w S (w.alloc (.cells cs' e)) S':=fun b hb=>⟨.inl hb,Below.heap_alloc w _ b (hR.hp.sS b hb)⟩
 have hold:∀b,b < w.heap.size→(w.alloc (.cells cs' e)).heap[b]?=w.heap[b]?:=fun b hb=>Below.heap_alloc w _ b hb
 have hR2:R N E S' ρ F H a (w.alloc (.cells cs' e)):=hR.ex (Ex.refl _ _) hmo
  ⟨hR.hp.len,hR.hp.nd,fun i B hi hS=>by
   rcases hS with hS|hS
   ·exact hR.hp.ap i B hi hS
   ·have:=hR.hp.lt i B hi;omega,fun i B hi=>by have:=hR.hp.lt i B hi;simp;omega,fun b hb=>by
   rcases hb with hb|hb
   ·have:=hR.hp.sS b hb;simp;omega
   ·subst hb;simp,fun i ob hob=>(hR.hp.blk i ob hob).ex (Ex.refl _ _) hmo (fun B hB=>hold B (hR.hp.lt i B hB)) (fun k B hB=>hold B (hR.hp.pl.ps i k B ⟨ob,hob,hB⟩).2.2),hR.hp.pl.mono (fun _ _ _ h=>h) (fun B hB=>hB.elim .inl (fun h=>.inr (.inl (by omega)))) (fun j _ h=>.inl ⟨j,h⟩) (by simp)⟩
  (hR.st.alloc _) hR.nw (fun b hb=>by
   rcases hb with hb|hb
   ·exact hR.nS b hb
   ·subst hb;exact .inr (.inl hR.st.size)) hR.pw
 refine⟨S',ρ,_,_,⟨.slice (some ⟨w.heap.size,0,none⟩) rows.length rows.length,rfl,rfl⟩, ?_⟩
 rw[hd]
 refine hR2.put hN (.c (.r rows w.heap.size 0 sz rows.length rows.length rfl (Nat.le_refl _) (.inr rfl) (fun row hrow=>(hr row hrow).1) (fun k j row u hk hj=>?_) (fun row hrow u hu=>(h5 row hrow u hu).1.mono hmo)))
 have h6:=h4 k j row u hk hj
 rw[Nat.zero_add] at h6 ⊢
 rw[World.cell?,zq2]
 simpa using h6
end
section
variable {N:Nat} {E:Env} {F:Fm} {H:List OB} {o:Oper}
theorem Ybsr {t e:TypeId} {sz k d:Nat} {ps:Array (Nat × Operand)} {rows:List (List CV)} {z:Value} {q:Nat × Nat} (ho:o.op = .buildSlice t k ps:=by exact rfl) (ht:bE.get t=some (e,sz):=by exact rfl) (hz:bI.get e=some (z,q):=by exact rfl) (hp:partsC F 0 ps.toList=some rows:=by exact rfl) (hd:o.dst=some d:=by exact rfl) (hN:d < N:=by decide) (hn:rows.length=k:=by exact rfl) (hzs:z.cells.size=sz:=by exact rfl) (hr:rows.all (fun row=>row.length == sz && row.all CV.one)=true:=by exact rfl) (hle:k*sz≤16777216:=by simp) (hnm:k≤16777216:=by simp):Ef Tryz.prog N E o F H fun F' H'=>∃v,F'=(d,.c (.r v rows)) :: F∧H'=H:=ef_bslr ho hd hN (KE ht) (zk5 hp) hn (KZ hz) hzs hr hle hnm
theorem Yslr {t e:TypeId} {sz:Nat} {x:Operand} {lo hi:Option Operand} {l h:Nat} {v:Value} {rows:List (List CV)} (ho:o.op = .slice t x lo hi none:=by exact rfl) (ht:bE.get t=some (e,sz):=by exact rfl) (hx:ev F x=some (.c (.r v rows)):=by exact rfl) (hlo:(lo=none∧l=0)∨∃y kd z,lo=some y∧ev F y=some (.c (.s (.int kd z)))∧z=l:=by first|exact .inl ⟨rfl,rfl⟩|exact .inr ⟨_,_,_,rfl,rfl,by first|rfl|omega⟩)
    (hhi:(hi=none∧h=rows.length)∨∃y kd z,hi=some y∧ev F y=some (.c (.s (.int kd z)))∧z=h:=by first|exact .inl ⟨rfl,rfl⟩|exact .inr ⟨_,_,_,rfl,rfl,by first|rfl|omega⟩) (hrow:∀row∈rows,row.length=sz:=by assumption) (hlh:l≤h:=by omega) (hhc:h≤rows.length:=by omega):Rd Tryz.prog N E o F H (.c (.r (subV v l h sz) ((rows.take h).drop l))):=zD10 ho (KE ht) hx hrow hlo hhi hlh hhc
variable {Q:Exit→Fm→List OB→Prop} {ops:Array Oper}
def AM1 (P:Program) (N:Nat) (E:Env) (ops:Array Oper) (o:Oper) (i:Nat) (U:Option (List Nat)) (n:Nat) (ps:List Plan) (F:Fm) (H:List OB) (Q:Exit→Fm→List OB→Prop):Prop:=ops[i]?=some o→headsOf ps = [(i,U)]→AM P N E ops (n+1) ps F H Q
theorem dkm {P:Program} {k i n:Nat} {U:Option (List Nat)} {ps:List Plan} (hh:headsOf ps = [(i,U)]) (hi:ops[i]?=some o) (ho:okc ops o F=some k) (h:KD k (AM1 P N E ops o i U n ps F H Q)):AM P N E ops (n+1) ps F H Q:=(show AM1 P N E ops o i U n ps F H Q from h) hi hh
theorem zB {P:Program} {i n d:Nat} {x:AV} {ps:List Plan} (hr:Rd P N E o F H x) (h:AM P N E ops n (tailsOf (i,none) ps) ((d,x) :: F) H Q) (hg:gok ops o F=true:=by exact rfl) (hd:o.dst=some d:=by exact rfl) (hN:d < N:=by decide):AM1 P N E ops o i none n ps F H Q:=fun ho hh S ρ a w hR=>by
 obtain⟨h1,h2⟩:=hr S ρ a w hR
 refine wpM_r hh rfl ho fun K hK=>?_
 rw[if_pos (zZ2 (P:=P) hg hR)]
 unfold Oper.still
 rw[h1]
 refine⟨rfl,hK _ ?_⟩
 rw[hd]
 exact h S ρ _ w (hR.put hN h2)
theorem am_skip {P:Program} {i n d:Nat} {ps:List Plan} (hg:gd ops o F=some false) (hd:o.dst=some d) (hN:d < N) (h:AM P N E ops n (tailsOf (i,none) ps) ((d,un) :: F) H Q):AM1 P N E ops o i none n ps F H Q:=fun ho hh S ρ a w hR=>by
 refine wpM_r hh rfl ho fun K hK=>?_
 have hw:¬Region.wanted o (yielded ops a.tmps)=true:=by
  obtain⟨j,b,oj,t,h1,h2,h3,⟨b',h4,h5⟩|⟨h4,h5⟩⟩:=zd8 hg
  ·simp only[Region.wanted,h1,zr1 hR h2 h3 h4]
   cases b <;> cases b' <;> simp_all
  ·simp[Region.wanted,h1,zl3 hR h2 h3 h4]
 rw[if_neg hw,hd]
 exact hK _ (h S ρ _ w (hR.put hN (.c (.s _))))
theorem M5 {i n d:Nat} {v:AV} {ps:List Plan} (h:rdT N ops o F H=some (d,v)) (k:AM Tryz.prog N E ops n (tailsOf (i,none) ps) ((d,v) :: F) H Q):AM1 Tryz.prog N E ops o i none n ps F H Q:=by
 obtain⟨h1,h2,⟨rfl,h3⟩|⟨h3,h4⟩⟩:=zR8 h
 ·exact am_skip h3 h1 h2 k
 ·exact zB (zk2 h4) k h3 h1 h2
theorem zy5 {P:Program} {F2:Fm} {H2:List OB} {i n:Nat} {U:List Nat} {ps:List Plan} (hr:Ef P N E o F H fun F' H'=>F'=F2∧H'=H2) (hU:∀j∈U,Ag P N E ops F2 H2 j) (h:AM P N E ops n (tailsOf (i,some U) ps) F2 H2 Q) (hg:gok ops o F=true:=by exact rfl):AM1 P N E ops o i (some U) n ps F H Q:=fun ho hh S ρ a w hR=>by
 refine wpM_e hh rfl ho fun K' hK=>?_
 rw[if_pos (zZ2 (P:=P) hg hR)]
 refine zT (fun a' w' hh=>?_) (hr S ρ a w hR)
 obtain⟨S',ρ',F',H',⟨h1,h2⟩,hR'⟩:=hh
 subst h1;subst h2
 exact hK _ _ (fun j hj=>hU j hj S' ρ' a' w' hR') (h S' ρ' a' w' hR')
theorem WX3 {G A:Prop} (h:G) (hs:Hid G→A:=by(intro h;refine dkm rfl rfl rfl ?_;(first|((with_reducible refine kd 20 ?_);refine M5 rfl ?_)|((with_reducible refine kd 4 ?_);first|refine M5 rfl ?_|refine zB YL ?_|refine zB YK ?_|refine zB YP ?_)|((with_reducible refine kd 1 ?_);first|refine zB Zeql ?_|refine zB Zadd ?_|refine zB Zlss ?_|refine zB Zneq ?_|refine zB Zsub ?_|refine zB Zmul ?_|refine zB Zgtr ?_|refine zB Zleq ?_|refine zB Zgeq ?_|refine zB Zquo ?_|refine zB Zqut ?_|refine zB Zquw ?_|refine zB Zrem ?_|refine zB Zrew ?_|refine zB Ynil ?_|refine zB Yeqb ?_|refine zB Yneb ?_|refine zB Yeqs ?_|refine zB Ynes ?_|refine zB Yads ?_|refine zB Ypn ?_|refine zB Ype ?_)|((with_reducible refine kd 2 ?_);first|refine zy5 Ysto (by(repeat first|exact zk|(refine zj (by first|exact agT rfl rfl rfl rfl|exact agX (hr:=YL)|exact agX (hr:=YK)|exact agX (hr:=YIj)|exact agX (hr:=YJ)|exact agX (hr:=YJo)|exact agX (hr:=YI)|exact agX (hr:=Ybld)|exact agAdd|exact agSub|exact agMul|exact agX (hr:=Ysli)|exact agX (hr:=Yslr)|exact agX (hr:=Zquo)|exact agX (hr:=Zqut)|exact agX (hr:=Zrem)|exact agX (hr:=Yidx)|exact agX (hr:=Ylns)|exact agX (hr:=Yeqs)|exact agX (hr:=Ynes)|exact agX (hr:=Zlss)|exact agX (hr:=Zeql)|exact agX (hr:=Zneq)|exact agX (hr:=zW (ty:=0) rfl rfl rfl)|exact agX (hr:=zX rfl rfl rfl)|exact agX (hr:=YP)|exact agLk|exact agSe|exact agSn) ?_))) ?_|refine zy5 Ystr (by(repeat first|exact zk|(refine zj (by first|exact agT rfl rfl rfl rfl|exact agX (hr:=YL)|exact agX (hr:=YK)|exact agX (hr:=YIj)|exact agX (hr:=YJ)|exact agX (hr:=YJo)|exact agX (hr:=YI)|exact agX (hr:=Ybld)|exact agAdd|exact agSub|exact agMul|exact agX (hr:=Ysli)|exact agX (hr:=Yslr)|exact agX (hr:=Zquo)|exact agX (hr:=Zqut)|exact agX (hr:=Zrem)|exact agX (hr:=Yidx)|exact agX (hr:=Ylns)|exact agX (hr:=Yeqs)|exact agX (hr:=Ynes)|exact agX (hr:=Zlss)|exact agX (hr:=Zeql)|exact agX (hr:=Zneq)|exact agX (hr:=zW (ty:=0) rfl rfl rfl)|exact agX (hr:=zX rfl rfl rfl)|exact agX (hr:=YP)|exact agLk|exact agSe|exact agSn) ?_))) ?_|refine zy5 Ystp (by(repeat first|exact zk|(refine zj (by first|exact agT rfl rfl rfl rfl|exact agX (hr:=YL)|exact agX (hr:=YK)|exact agX (hr:=YIj)|exact agX (hr:=YJ)|exact agX (hr:=YJo)|exact agX (hr:=YI)|exact agX (hr:=Ybld)|exact agAdd|exact agSub|exact agMul|exact agX (hr:=Ysli)|exact agX (hr:=Yslr)|exact agX (hr:=Zquo)|exact agX (hr:=Zqut)|exact agX (hr:=Zrem)|exact agX (hr:=Yidx)|exact agX (hr:=Ylns)|exact agX (hr:=Yeqs)|exact agX (hr:=Ynes)|exact agX (hr:=Zlss)|exact agX (hr:=Zeql)|exact agX (hr:=Zneq)|exact agX (hr:=zW (ty:=0) rfl rfl rfl)|exact agX (hr:=zX rfl rfl rfl)|exact agX (hr:=YP)|exact agLk|exact agSe|exact agSn) ?_))) ?_)|((with_reducible refine kd 3 ?_);first|refine zB YI ?_|refine zB YJ ?_|refine zB YJo ?_)|((with_reducible refine kd 14 ?_);first|refine M5 rfl ?_|refine zB Ylns ?_)|((with_reducible refine kd 15 ?_);refine zB Yidx ?_)|((with_reducible refine kd 5 ?_);first|refine zB Ysli ?_|refine zB Yslr ?_)|((with_reducible refine kd 6 ?_);refine zy5 Ybsl (by(repeat first|exact zk|(refine zj (by first|exact agT rfl rfl rfl rfl|exact agX (hr:=YL)|exact agX (hr:=YK)|exact agX (hr:=YIj)|exact agX (hr:=YJ)|exact agX (hr:=YJo)|exact agX (hr:=YI)|exact agX (hr:=Ybld)|exact agAdd|exact agSub|exact agMul|exact agX (hr:=Ysli)|exact agX (hr:=Yslr)|exact agX (hr:=Zquo)|exact agX (hr:=Zqut)|exact agX (hr:=Zrem)|exact agX (hr:=Yidx)|exact agX (hr:=Ylns)|exact agX (hr:=Yeqs)|exact agX (hr:=Ynes)|exact agX (hr:=Zlss)|exact agX (hr:=Zeql)|exact agX (hr:=Zneq)|exact agX (hr:=zW (ty:=0) rfl rfl rfl)|exact agX (hr:=zX rfl rfl rfl)|exact agX (hr:=YP)|exact agLk|exact agSe|exact agSn) ?_))) ?_)|((with_reducible refine kd 7 ?_);refine zy5 Yall (by(repeat first|exact zk|(refine zj (by first|exact agT rfl rfl rfl rfl|exact agX (hr:=YL)|exact agX (hr:=YK)|exact agX (hr:=YIj)|exact agX (hr:=YJ)|exact agX (hr:=YJo)|exact agX (hr:=YI)|exact agX (hr:=Ybld)|exact agAdd|exact agSub|exact agMul|exact agX (hr:=Ysli)|exact agX (hr:=Yslr)|exact agX (hr:=Zquo)|exact agX (hr:=Zqut)|exact agX (hr:=Zrem)|exact agX (hr:=Yidx)|exact agX (hr:=Ylns)|exact agX (hr:=Yeqs)|exact agX (hr:=Ynes)|exact agX (hr:=Zlss)|exact agX (hr:=Zeql)|exact agX (hr:=Zneq)|exact agX (hr:=zW (ty:=0) rfl rfl rfl)|exact agX (hr:=zX rfl rfl rfl)|exact agX (hr:=YP)|exact agLk|exact agSe|exact agSn) ?_))) ?_)|((with_reducible refine kd 8 ?_);refine zy5 Zbox (by(repeat first|exact zk|(refine zj (by first|exact agT rfl rfl rfl rfl|exact agX (hr:=YL)|exact agX (hr:=YK)|exact agX (hr:=YIj)|exact agX (hr:=YJ)|exact agX (hr:=YJo)|exact agX (hr:=YI)|exact agX (hr:=Ybld)|exact agAdd|exact agSub|exact agMul|exact agX (hr:=Ysli)|exact agX (hr:=Yslr)|exact agX (hr:=Zquo)|exact agX (hr:=Zqut)|exact agX (hr:=Zrem)|exact agX (hr:=Yidx)|exact agX (hr:=Ylns)|exact agX (hr:=Yeqs)|exact agX (hr:=Ynes)|exact agX (hr:=Zlss)|exact agX (hr:=Zeql)|exact agX (hr:=Zneq)|exact agX (hr:=zW (ty:=0) rfl rfl rfl)|exact agX (hr:=zX rfl rfl rfl)|exact agX (hr:=YP)|exact agLk|exact agSe|exact agSn) ?_))) ?_)|((with_reducible refine kd 9 ?_);refine zB Ybld ?_)|((with_reducible refine kd 10 ?_);refine zB Yneg ?_)|((with_reducible refine kd 11 ?_);refine zB Ymkf ?_)|((with_reducible refine kd 12 ?_);refine zy5 Ymak (by(repeat first|exact zk|(refine zj (by first|exact agT rfl rfl rfl rfl|exact agX (hr:=YL)|exact agX (hr:=YK)|exact agX (hr:=YIj)|exact agX (hr:=YJ)|exact agX (hr:=YJo)|exact agX (hr:=YI)|exact agX (hr:=Ybld)|exact agAdd|exact agSub|exact agMul|exact agX (hr:=Ysli)|exact agX (hr:=Yslr)|exact agX (hr:=Zquo)|exact agX (hr:=Zqut)|exact agX (hr:=Zrem)|exact agX (hr:=Yidx)|exact agX (hr:=Ylns)|exact agX (hr:=Yeqs)|exact agX (hr:=Ynes)|exact agX (hr:=Zlss)|exact agX (hr:=Zeql)|exact agX (hr:=Zneq)|exact agX (hr:=zW (ty:=0) rfl rfl rfl)|exact agX (hr:=zX rfl rfl rfl)|exact agX (hr:=YP)|exact agLk|exact agSe|exact agSn) ?_))) ?_)|((with_reducible refine kd 13 ?_);first|refine zB (zW (ty:=0) rfl rfl rfl) ?_|refine zB (zX rfl rfl rfl) ?_|refine zB (zP7 rfl rfl rfl rfl) ?_|refine zB (zQ7 rfl rfl rfl rfl) ?_|refine zB (zO7 rfl rfl rfl rfl rfl) ?_));exact h.out)):A:=hs ⟨h⟩
theorem WM {G A:Prop} (h:G) (hs:Hid G→A:=by(intro h;(repeat refine WX3 ?_);exact h.out)):A:=hs ⟨h⟩
theorem WN {G A:Prop} (h:G) (hs:Hid G→A:=by(intro h;(repeat refine WX3 ?_);refine am_nil ?_;(repeat with_reducible first|apply S1|apply S2|apply S3|apply S4|apply S5|apply S6|apply S7|apply S8|refine S0 rfl ?_|apply SA|apply SB|apply SC);exact h.out)):A:=hs ⟨h⟩
theorem AGX {U:List Nat} (h:∀j∈U,Ag Tryz.prog N E ops F H j:=by(repeat first|exact zk|(refine zj (by first|exact agT rfl rfl rfl rfl|exact agX (hr:=YL)|exact agX (hr:=YK)|exact agX (hr:=YIj)|exact agX (hr:=YJ)|exact agX (hr:=YJo)|exact agX (hr:=YI)|exact agX (hr:=Ybld)|exact agAdd|exact agSub|exact agMul|exact agX (hr:=Ysli)|exact agX (hr:=Yslr)|exact agX (hr:=Zquo)|exact agX (hr:=Zqut)|exact agX (hr:=Zrem)|exact agX (hr:=Yidx)|exact agX (hr:=Ylns)|exact agX (hr:=Yeqs)|exact agX (hr:=Ynes)|exact agX (hr:=Zlss)|exact agX (hr:=Zeql)|exact agX (hr:=Zneq)|exact agX (hr:=zW (ty:=0) rfl rfl rfl)|exact agX (hr:=zX rfl rfl rfl)|exact agX (hr:=YP)|exact agLk|exact agSe|exact agSn) ?_))):∀j∈U,Ag Tryz.prog N E ops F H j:=h
end
end Go.Proofs.YtophoepbedlhjaaGreatDoor
namespace Go.Proofs.YtophoepbedlhjaaGreatDoor
open Go Go.RowKit
section
variable {N:Nat} {E:Env} {F:Fm} {H:List OB} {K:Fm→List OB→Prop}
theorem zB3 {P:Program} {c:Code} {Q:Exit→Fm→List OB→Prop} (h:AW P N E c F H (fun e F H=>Wk N E F H (Q e))):AW P N E c F H Q:=fun S ρ a w hR n=>
 wpIn_mono (h S ρ a w hR n) fun _ a' w' ⟨S1,ρ1,F1,H1,h1,hR1⟩=>by
  obtain⟨S2,ρ2,F2,H2,h2,hR2⟩:=h1 S1 ρ1 a' w' hR1
  exact⟨S2,ρ2,F2,H2,h2,hR2⟩
end
section
variable {P:Program} {N:Nat} {E:Env} {F:Fm} {H:List OB} {K:Fm→List OB→Prop} {Q:Exit→Fm→List OB→Prop} {ops:Array Oper}
theorem at_wk {L:List (Nat × Option (List Nat))} (h:Wk N E F H K) (hk:∀F' H',K F' H'→AT P N E ops L F' H' Q):AT P N E ops L F H Q:=fun S ρ a w hR=>by
 obtain⟨S',ρ',F',H',h1,h2⟩:=h S ρ a w hR
 exact hk F' H' h1 S' ρ' a w h2
theorem am_wk {n:Nat} {ps:List Plan} (h:Wk N E F H K) (hk:∀F' H',K F' H'→AM P N E ops n ps F' H' Q):AM P N E ops n ps F H Q:=fun S ρ a w hR=>by
 obtain⟨S',ρ',F',H',h1,h2⟩:=h S ρ a w hR
 exact hk F' H' h1 S' ρ' a w h2
end
end Go.Proofs.YtophoepbedlhjaaGreatDoor
namespace Go.Proofs.YtophoepbedlhjaaGreatDoor
open Go Go.RowKit
section
variable {P:Program} {N:Nat} {E:Env} {F:Fm} {H:List OB} {o:Oper} {S:Nat→Prop} {ρ:List (Option Nat)} {a:Act} {w:World}
def arrSz (P:Program) (t:TypeId):Option (Nat × TypeId × Nat):=
 match P.underlying t with
 | some (.array n e)=>(P.info? e).map fun i=>(n,e,i.size)
 | _=>none
theorem zB4 {t e:TypeId} {n sz:Nat} (h:arrSz P t=some (n,e,sz)):(underlying t).run P w = .ok (.array n e) w∧(sizeOf e).run P w = .ok sz w:=by
 unfold arrSz at h
 cases hu:P.underlying t with
 | none=>rw[hu] at h;cases h
 | some d=>
  rw[hu] at h
  cases d <;> simp only[reduceCtorEq] at h
  rename_i n' e'
  cases hi:P.info? e' with
  | none=>rw[hi] at h;cases h
  | some i=>
   rw[hi] at h
   simp only[Option.map_some,Option.some.injEq,Prod.mk.injEq] at h
   obtain⟨rfl,rfl,rfl⟩:=h
   exact⟨by unfold underlying;simp[hu],by simp[sizeOf,typeInfo,hi]⟩
theorem zE4 {t e:TypeId} {x ix:Operand} {b k j n i sz:Nat} {kd:IntKind} {z:Int} (ho:o.op = .indexAddr t x ix) (ht:arrSz P t=some (n,e,sz)) (hx:ev F x=some (.p b k j)) (hix:ev F ix=some (.c (.s (.int kd z)))) (hz:z=i) (hi:i < n) :
    Rd P N E o F H (.p b k (j+i*sz)):=fun S ρ a w hR=>by
 obtain⟨h1,h2⟩:=hR.ev hx
 have h3:=(hR.ev hix).1
 simp only[AV.den,CV.den] at h3
 obtain⟨hu,hs⟩:=zB4 (w:=w) ht
 cases h2 with
 | p g0 g=>
  obtain⟨B,hB⟩:=Option.isSome_iff_exists.1 g
  refine⟨?_,.p g0 g⟩
  simp only[execOp,ho,h1,h3,AV.den,hB,Option.map_some,hz,Sem.run_bind,Instr.indexAt,asIntOf,hu,Result.andThen_ok,Sem.run_pure,Instr.sureAddr]
  rw[if_pos (by omega)]
  simp only[Sem.run_bind,hs,Result.andThen_ok,Sem.run_pure,Int.toNat_natCast]
  unfold Addr.add
  split
  ·rename_i h0;rw[h0];rfl
  ·simp only[Nat.add_assoc]
theorem rd_ixv {t e:TypeId} {x ix:Operand} {l:List AV} {n i sz:Nat} {kd:IntKind} {z:Int} (ho:o.op = .index t x ix) (ht:arrSz P t=some (n,e,sz)) (hk:ldk P e=some (some sz)) (hx:ev F x=some (.a l)) (hix:ev F ix=some (.c (.s (.int kd z)))) (hz:z=i) (hi:i < n) :
    Rd P N E o F H (.a ((l.drop (i*sz)).take sz)):=fun S ρ a w hR=>by
 obtain⟨h1,h2⟩:=hR.ev hx
 have h3:=(hR.ev hix).1
 simp only[AV.den,CV.den] at h3
 obtain⟨hu,hs⟩:=zB4 (w:=w) ht
 cases h2 with
 | a g=>
  refine⟨?_,.a fun y hy=>g y (List.mem_of_mem_drop (List.mem_of_mem_take hy))⟩
  simp only[execOp,ho,h1,h3,AV.den,hz,Sem.run_bind,Instr.index,asIntOf,hu,Result.andThen_ok,Sem.run_pure]
  rw[if_pos (by omega)]
  have ha:(isAgg e).run P w = .ok true w:=(zV1 hk).1
  simp only[Sem.run_bind,hs,Result.andThen_ok,Sem.run_pure,Int.toNat_natCast,part,ha,if_true,AV.denL_eq]
  congr 3
  simp[List.extract_eq_take_drop]
def aplaces (P:Program) (t:TypeId):Option (List (Nat × Nat)):=(arrSz P t).map fun q=>(List.range q.1).map fun i=>(i*q.2.2,q.2.2)
theorem zB7 {pl:List (Nat × Nat)} {f:Nat→Option (Nat × Nat)} (hf:∀i x,pl[i]?=some x→f i=some x) {ps:List (Nat × Operand)} {l l':List AV} (hR:R N E S ρ F H a w) (h:BParts F pl ps l l') (hw:∀x∈l,WF w S ρ H x) :
    Instr.fill f (l.map (AV.den ρ H)).toArray (ps.map fun x=>(x.1,a.eval x.2))=some (l'.map (AV.den ρ H)).toArray∧∀x∈l',WF w S ρ H x:=by
 induction h with
 | nil=>exact⟨rfl,hw⟩
 | @cons i off k x v ps l l1 l2 h hp hk hl h1 he ht ih=>
  subst he
  obtain⟨g1,g2⟩:=hR.ev h
  obtain⟨e1,e2⟩:=za1 g2 h1
  obtain⟨q1,q2⟩:=ih (fun x hx=>by
   rcases zR3 hx with hx|hx
   ·exact(e2 x hx).1
   ·exact hw x hx)
  refine⟨?_,q2⟩
  simp only[List.map_cons,Instr.fill,hf i _ hp,g1,e1,List.size_toArray,List.length_map,hk,ne_eq,not_true_eq_false,decide_false,Bool.false_or]
  rw[if_neg (by simp;omega),zs3]
  simp only
  rw[zd5 (by omega)]
  exact q1
theorem zi2 {t:TypeId} {ps:Array (Nat × Operand)} {z:Value} {vs:List Value} {pl:List (Nat × Nat)} {l':List AV} (ho:o.op = .build t ps) (hz:(P.info? t).bind (·.zero)=some z) (hc:z.cells=vs.toArray) (hpl:aplaces P t=some pl)
    (hb:BParts F pl ps.toList (vs.map fun v=>.c (cvOf v)) l'):Rd P N E o F H (.a l'):=fun S ρ a w hR=>by
 unfold aplaces at hpl
 cases hq:arrSz P t with
 | none=>rw[hq] at hpl;cases hpl
 | some q=>
  obtain⟨n,e,sz⟩:=q
  rw[hq] at hpl
  simp only[Option.map_some,Option.some.injEq] at hpl
  subst hpl
  obtain⟨h1,h2⟩:=zB7 (f:=fun i=>some (i*sz,sz)) (fun i x hx=>by
   rw[List.getElem?_map] at hx
   cases hr:(List.range n)[i]? with
   | none=>rw[hr] at hx;cases hx
   | some j=>
    rw[hr] at hx
    simp only[Option.map_some] at hx
    have:j=i:=by
     have hlt:=(List.getElem?_eq_some_iff.1 hr).1
     rw[List.getElem?_eq_getElem hlt] at hr
     simpa using hr.symm
    rw[←hx,this]) hR hb (fun x hx=>by obtain⟨v,_,rfl⟩:=List.mem_map.1 hx;exact .c (zO2 _ _ _))
  refine⟨?_,.a h2⟩
  obtain⟨hu,hs⟩:=zB4 (w:=w) hq
  have hzr:(zeroValue t).run P w = .ok z w:=by
   unfold zeroValue typeInfo
   cases hi:P.info? t with
   | none=>rw[hi] at hz;cases hz
   | some i=>rw[hi] at hz;simp only[Option.bind_some] at hz;simp[hi,hz]
  have hpm:(ps.map fun x=>(x.1,a.eval x.2)).toList=ps.toList.map fun x=>(x.1,a.eval x.2):=by simp
  have hvs:z.cells=((vs.map fun v=>AV.c (cvOf v)).map (AV.den ρ H)).toArray:=by rw[hc];simp[Function.comp_def,AV.den,zY1]
  simp only[execOp,ho,Instr.build,Sem.run_bind,hzr,Result.andThen_ok,hu,hs,hpm,hvs,h1,Sem.run_pure,AV.den,AV.denL_eq]
mutual
/-- Pointers to the block's cells, without rows. -/
def AV.nk (b:Nat):AV→Bool
 | .p b' k _=>b' != b || k == 0
 | .a l=>AV.nkL b l
 | .t l=>AV.nkL b l
 | .f _ l=>AV.nkL b l
 | _=>true
def AV.nkL (b:Nat):List AV→Bool
 | []=>true
 | x :: l=>AV.nk b x && AV.nkL b l
end
def OB.nk (b:Nat):OB→Bool
 | .box l=>AV.nkL b l
 | .boxt _ l=>AV.nkL b l
 | .eqv x _=>AV.nk b x
 | _=>true
end
end Go.Proofs.YtophoepbedlhjaaGreatDoor
-- NEWM
namespace Go.Proofs.YtophoepbedlhjaaGreatDoor
open Go Go.RowKit
set_option maxRecDepth 100000
def ascL (l:List UInt8):List AV:=(List.range 256).map fun i=>.c (B (l.any fun c=>c.toNat == i))
theorem zd1 (l:List UInt8):(ascL l).length=256:=by simp[ascL]
theorem zs9:(List.replicate 256 (Value.bool false)).map (fun v=>AV.c (cvOf v))=ascL []:=by
 rw[List.map_replicate,ascL]
 refine List.ext_getElem (by rw[List.length_replicate,List.length_map,List.length_range]) fun i h1 h2=>?_
 rw[List.getElem_replicate,List.getElem_map]
 rfl
theorem ascL_at (l:List UInt8) (b:UInt8):(ascL l).drop (0+b.toNat*1) = .c (B (l.contains b)) :: (ascL l).drop (b.toNat+1):=by
 have hb:=b.toNat_lt
 rw[Nat.zero_add,Nat.mul_one,List.drop_eq_getElem_cons (by rw[zd1];omega)]
 congr 1
 simp only[ascL,List.getElem_map,List.getElem_range]
 congr 2
 rw[Bool.eq_iff_iff,List.any_eq_true,List.contains_iff_mem]
 constructor
 ·rintro⟨c,h1,h2⟩
  have h2:c.toNat=b.toNat:=by simpa using h2
  rwa [←UInt8.toNat_inj.1 h2]
 ·intro h;exact⟨b,h,by simp⟩
theorem ascL_put (l:List UInt8) (b:UInt8):putL (ascL l) (0+b.toNat*1) [.c (B true)]=ascL (l++[b]):=by
 have hb:=b.toNat_lt
 rw[Nat.zero_add,Nat.mul_one]
 refine List.ext_getElem? fun i=>?_
 rw[zU2 (by rw[zd1];simp;omega)]
 have hat:∀(m:List UInt8) (i:Nat),(ascL m)[i]?=if i < 256 then some (.c (B (m.any fun c=>c.toNat == i))) else none:=fun m i=>by
  unfold ascL
  rw[List.getElem?_map]
  split
  ·rename_i h;rw[List.getElem?_range h];rfl
  ·rename_i h;rw[List.getElem?_eq_none (by simpa using h)];rfl
 rw[hat,hat]
 simp only[List.length_singleton]
 by_cases hi:b.toNat≤i∧i < b.toNat+1
 ·obtain rfl:i=b.toNat:=by omega
  rw[if_pos ⟨by omega,by omega⟩,if_pos (by omega),Nat.sub_self]
  simp
 ·rw[if_neg hi]
  have:(b.toNat == i)=false:=by simp;omega
  simp[List.any_append,this]
theorem zP (l:List UInt8):AV.cloL (ascL l)=true:=by
 have:∀m:List CV,AV.cloL (m.map .c)=true:=fun m=>by
  induction m with
  | nil=>rfl
  | cons x m ih=>rw[List.map_cons,AV.cloL,AV.clo];exact ih
 have e:ascL l=((List.range 256).map fun i=>B (l.any fun c=>c.toNat == i)).map .c:=by rw[ascL,List.map_map];rfl
 rw[e];exact this _
theorem zr9 (l:List UInt8):(ascL l).all AV.one=true:=by
 rw[List.all_eq_true]
 intro x hx
 obtain⟨i,_,rfl⟩:=List.mem_map.1 hx
 rfl
theorem zt9 (m l:List UInt8):putL (ascL m) 0 (ascL l)=ascL l:=by
 unfold putL
 rw[List.take_zero,List.nil_append,Nat.zero_add,List.drop_eq_nil_of_le (by rw[zd1,zd1];exact Nat.le_refl _),List.append_nil]
theorem zq9 (l:List UInt8) (b:UInt8):ACalls Tryz.prog 298 [.p 0 0 0,.c (.s (.int .u8 b.toNat))] [.box (ascL l)] fun u H=>u = .c (B (l.contains b))∧H = [.box (ascL l)]:=by
 refine zb (N:=10) Tryz.func298 rfl rfl (by simp) fun E hE=>?_
 refine WA ?_
 refine ZR ?_
 iterate 3 refine WX1 ?_
 refine ZA (zE4 (i:=b.toNat) (n:=256) (e:=4) (sz:=1) rfl (by kernel_rfl) rfl rfl rfl (by have:=b.toNat_lt;omega)) ?_
 refine ZA (zf5 rfl (by kernel_rfl) rfl (Cells.box rfl) (ascL_at l b)) ?_
 refine WE ?_
 exact zP2 [some 0] [.box (ascL l)] rfl rfl rfl (by decide) (ZNK rfl) (fun _=>.box rfl (C0 (zP l)) .nil) ⟨rfl,rfl⟩
theorem zZ7 (l:List UInt8) (h8:∀b∈l,b < 128) (hl:l.length≤1000000):ACalls Tryz.prog 231 [.c (T l)] [] fun u H=>u = .t [.a (ascL l),.c (B true)]∧H = []:=by
 refine zb (N:=21) Tryz.func231 rfl rfl (by simp) fun E hE=>?_
 refine ZR ?_
 refine zf rfl (zA6 (z:=.agg (List.replicate 256 (Value.bool false)).toArray) (vs:=List.replicate 256 (.bool false)) rfl rfl (by decide) (by kernel_rfl) rfl (by decide +kernel)) ?_
 rintro _ _ ⟨rfl,rfl⟩
 rw[zs9]
 refine WE ?_
 refine WA ?_
 refine zm (fun m F H=>∃k:Nat,m+k=l.length∧F = [(0,.c (T l)),(2,.p 0 0 0),(4,.c (I k))]∧H = [.box (ascL (l.take k))]) ?_ ?_
 ·refine wkg [some 0] (fun _=>[(0,.c (T l)),(2,.p 0 0 0),(4,.c (I (0:Nat)))]) (fun _=>[.box (ascL [])]) (fun _=>?_) (hH:=fun _=>.box rfl (C0 (zP _)) .nil)
  exact⟨l.length,0,by omega,rfl,rfl⟩
 rintro m F H ⟨k,hk,rfl,rfl⟩
 have hsz:=zi1 l
 by_cases hlt:k < l.length
 ·obtain⟨b,hb⟩:∃b,l[k]?=some b:=⟨_,List.getElem?_eq_getElem hlt⟩
  have hb8:¬(128:Int)≤(b.toNat:Int):=by have:=h8 b (List.mem_of_getElem? hb);have:b.toNat < 128:=this;omega
  have htk:l.take (k+1)=l.take k++[b]:=by rw[List.take_add_one,hb];rfl
  refine WA ?_
  refine zd rfl ?_
  refine ZR ?_
  iterate 2 refine WX1 ?_
  refine ZA (zg4 (i:=k) rfl Tryz.underlying9 rfl rfl rfl hb) ?_
  refine WE ?_
  refine WA ?_
  refine za rfl ?_
  refine ZR ?_
  refine WX1 ?_
  refine ZA (zE4 (i:=b.toNat) (n:=256) (e:=4) (sz:=1) rfl (by kernel_rfl) rfl rfl rfl (by have:=b.toNat_lt;omega)) ?_
  refine zf rfl (zY3 (k:=1) rfl rfl rfl rfl rfl (by kernel_rfl) rfl (by rw[zd1];have:=b.toNat_lt;omega) rfl (ascL_put _ b) rfl) ?_
  rintro _ _ ⟨rfl,rfl⟩
  refine WE ?_
  refine WA ?_
  refine wkg [some 0] (fun _=>[(0,.c (T l)),(2,.p 0 0 0),(4,.c (I (k+1:Nat)))]) (fun _=>[.box (ascL (l.take k++[b]))]) (fun _=>?_) (hH:=fun _=>.box rfl (C0 (zP _)) .nil)
  exact⟨m - 1,by omega,k+1,by omega,rfl,by rw[htk]⟩
 obtain rfl:k=l.length:=by omega
 rw[List.take_length]
 refine WA ?_
 refine za rfl ?_
 refine ZR ?_
 refine ZA (zk6 (k:=256) (cs':=ascL l) rfl (by kernel_rfl) rfl (Cells.box rfl) (by rw[List.drop_zero,List.take_of_length_le (by rw[zd1];exact Nat.le_refl _)]) (by rw[List.drop_zero,zd1];exact Nat.le_refl _)) ?_
 refine zf rfl (zY3 (k:=256) (l':=ascL l) rfl rfl rfl rfl rfl (by kernel_rfl) (zd1 l) (by rw[zd1];exact Nat.le_refl _) (zr9 l) (zt9 _ l) rfl) ?_
 rintro _ _ ⟨rfl,rfl⟩
 refine WE ?_
 exact zI (us:=[.a (ascL l),.c (B true)]) [] (fun _=>.t [.a (ascL l),.c (B true)]) (fun _=>[]) (.cella (n:=256) rfl (by kernel_rfl) (Cells.box rfl) (by rw[List.drop_zero,zd1];exact Nat.le_refl _) (by rw[List.drop_zero,List.take_of_length_le (by rw[zd1];exact Nat.le_refl _)]) (.tmp rfl .nil)) (by decide) (fun i hi=>absurd hi (Nat.not_lt_zero i)) (fun _=>.tL (.cons (.aL (C0 (zP l))) (.cons (.c rfl) .nil))) (fun _=>.nil) (fun _=>⟨rfl,rfl⟩)
end Go.Proofs.YtophoepbedlhjaaGreatDoor
