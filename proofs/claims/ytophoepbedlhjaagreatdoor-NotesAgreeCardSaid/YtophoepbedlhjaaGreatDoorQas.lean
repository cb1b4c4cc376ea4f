/- strings.Trim with a set of ASCII letters, by value: the trims. -/
import Derived.Test.YtophoepbedlhjaaGreatDoorQam
import Derived.Test.YtophoepbedlhjaaGreatDoorQaj
import Derived.Test.YtophoepbedlhjaaGreatDoorQar
import Derived.Test.YtophoepbedlhjaaGreatDoorQan
set_option linter.unusedSimpArgs false
set_option linter.unusedVariables false
namespace Go.Proofs.YtophoepbedlhjaaGreatDoor
open Go Go.RowKit
set_option maxRecDepth 100000
section
variable {P:Program} {N:Nat} {E:Env} {F:Fm} {H:List OB} {o:Oper}
theorem ze16 {t e:TypeId} {sz n d:Nat} {ps:Array (Nat × Operand)} {rows:List (List CV)} {z:Value} (ho:o.op = .buildSlice t n ps) (hd:o.dst=some d) (hN:d < N) (ht:elemSz P t=some (e,sz)) (hp:Parts F 0 ps.toList rows) (hn:rows.length=n)
    (hz:(P.info? e).bind (·.zero)=some z) (hzs:z.cells.size=sz) (hr:rows.all (fun row=>row.length == sz && row.all CV.one)=true) (hle:n*sz≤16777216) (hnm:n≤16777216) :
    Ef P N E o F H fun F' H'=>∃v,F'=(d,.c (.r v rows)) :: F∧H'=H:=fun S ρ a w hR=>by
 obtain⟨hu,i,hi,hs⟩:=zw ht
 have hu':(underlying t).run P w = .ok (.slice e) w:=by unfold underlying;simp[hu]
 have hsz:(sizeOf e).run P w = .ok sz w:=by simp[sizeOf,typeInfo,hi,hs]
 have hzr:(zeroValue e).run P w = .ok z w:=by
  unfold zeroValue typeInfo
  rw[hi] at hz
  simp only[Option.bind_some] at hz
  simp[hi,hz]
 subst hn
 have hr:∀row∈rows,row.length=sz∧∀u∈row,u.one=true:=by simpa using hr
 obtain⟨⟨cs',h1,h2,_,h4⟩,h5⟩:=zr6 (sz:=sz) hR hp ((Array.range (rows.length*sz)).map ((if rows.length*sz=0 then #[] else z.cells)[· % (if rows.length*sz=0 then #[] else z.cells).size]!)) (by simp) hr
 have hpm:(ps.map fun x=>(x.1,a.eval x.2)).toList=ps.toList.map fun x=>(x.1,a.eval x.2):=by simp
 have hlim:¬(rows.length*sz > 2 ^ 24):=by omega
 have hlim0:¬((0:Nat) > 2 ^ 24):=by decide
 have hex:(execOp a.eval o).run P w = .ok (.value (.slice (some ⟨w.heap.size,0,none⟩) rows.length rows.length)) (w.alloc (.cells cs' e)):=by
  by_cases hz0:rows.length*sz=0
  ·simp only[hz0,if_true] at h1
   simp only[execOp,ho,Instr.buildSlice,Sem.run_bind,hu',Result.andThen_ok,hsz,hlim0,if_false,hz0,if_true,Sem.run_pure,hpm,h1,newRow,run_newObj,World.alloc_eq]
  ·simp only[hz0,if_false] at h1
   simp only[execOp,ho,Instr.buildSlice,Sem.run_bind,hu',Result.andThen_ok,hsz,hlim,if_false,hz0,hzr,Sem.run_pure,hpm,h1,newRow,run_newObj,World.alloc_eq]
 unfold effO
 rw[hex]
 let S':Nat→Prop:=fun b=>S b∨b=w.heap.size
 have hmo:Mo w S (w.alloc (.cells cs' e)) S':=fun b hb=>⟨.inl hb,Below.heap_alloc w _ b (hR.hp.sS b hb)⟩
 have hold:∀b,b < w.heap.size→(w.alloc (.cells cs' e)).heap[b]?=w.heap[b]?:=fun b hb=>Below.heap_alloc w _ b hb
 have hR2:R N E S' ρ F H a (w.alloc (.cells cs' e)):=hR.ex (Ex.refl _ _) hmo
  ⟨hR.hp.len,hR.hp.nd,fun i B hi hS=>by
   rcases hS with hS|hS
   ·exact hR.hp.ap i B hi hS
   ·have:=hR.hp.lt i B hi;omega,fun i B hi=>by have:=hR.hp.lt i B hi;simp;omega,fun b hb=>by
   rcases hb with hb|hb
   ·have:=hR.hp.sS b hb;simp;omega
   ·subst hb;simp,fun i ob hob=>(hR.hp.blk i ob hob).ex (Ex.refl _ _) hmo (fun B hB=>hold B (hR.hp.lt i B hB)) (fun k B hB=>hold B (hR.hp.pl.ps i k B ⟨ob,hob,hB⟩).2.2),hR.hp.pl.mono (fun _ _ _ h=>h) (fun B hB=>hB.elim .inl (fun h=>.inr (.inl (by omega)))) (fun j _ h=>.inl ⟨j,h⟩) (by simp)⟩
  (hR.st.alloc _) hR.nw (fun b hb=>by
   rcases hb with hb|hb
   ·exact hR.nS b hb
   ·subst hb;exact .inr (.inl hR.st.size)) hR.pw
 refine⟨S',ρ,_,_,⟨.slice (some ⟨w.heap.size,0,none⟩) rows.length rows.length,rfl,rfl⟩, ?_⟩
 rw[hd]
 refine hR2.put hN (.c (.r rows w.heap.size 0 sz rows.length rows.length rfl (Nat.le_refl _) (.inr rfl) (fun row hrow=>(hr row hrow).1) (fun k j row u hk hj=>?_) (fun row hrow u hu=>(h5 row hrow u hu).1.mono hmo)))
 have h6:=h4 k j row u hk hj
 rw[Nat.zero_add] at h6 ⊢
 rw[World.cell?,zf2]
 simpa using h6
end
section
variable {N:Nat} {E:Env} {F:Fm} {H:List OB} {o:Oper}
theorem Ybsr {t e:TypeId} {sz k d:Nat} {ps:Array (Nat × Operand)} {rows:List (List CV)} {z:Value} {q:Nat × Nat} (ho:o.op = .buildSlice t k ps:=by exact rfl) (ht:bE.get t=some (e,sz):=by exact rfl) (hz:bI.get e=some (z,q):=by exact rfl) (hp:partsC F 0 ps.toList=some rows:=by exact rfl) (hd:o.dst=some d:=by exact rfl) (hN:d < N:=by decide) (hn:rows.length=k:=by exact rfl) (hzs:z.cells.size=sz:=by exact rfl) (hr:rows.all (fun row=>row.length == sz && row.all CV.one)=true:=by exact rfl) (hle:k*sz≤16777216:=by simp) (hnm:k≤16777216:=by simp):Ef Tryz.prog N E o F H fun F' H'=>∃v,F'=(d,.c (.r v rows)) :: F∧H'=H:=ze16 ho hd hN (KE ht) (zq5 hp) hn (KZ hz) hzs hr hle hnm
theorem Yslr {t e:TypeId} {sz:Nat} {x:Operand} {lo hi:Option Operand} {l h:Nat} {v:Value} {rows:List (List CV)} (ho:o.op = .slice t x lo hi none:=by exact rfl) (ht:bE.get t=some (e,sz):=by exact rfl) (hx:ev F x=some (.c (.r v rows)):=by exact rfl) (hlo:(lo=none∧l=0)∨∃y kd z,lo=some y∧ev F y=some (.c (.s (.int kd z)))∧z=l:=by first|exact .inl ⟨rfl,rfl⟩|exact .inr ⟨_,_,_,rfl,rfl,by first|rfl|omega⟩)
    (hhi:(hi=none∧h=rows.length)∨∃y kd z,hi=some y∧ev F y=some (.c (.s (.int kd z)))∧z=h:=by first|exact .inl ⟨rfl,rfl⟩|exact .inr ⟨_,_,_,rfl,rfl,by first|rfl|omega⟩) (hrow:∀row∈rows,row.length=sz:=by assumption) (hlh:l≤h:=by omega) (hhc:h≤rows.length:=by omega):Rd Tryz.prog N E o F H (.c (.r (subV v l h sz) ((rows.take h).drop l))):=zj5 ho (KE ht) hx hrow hlo hhi hlh hhc
variable {Q:Exit→Fm→List OB→Prop} {ops:Array Oper}
def AM1 (P:Program) (N:Nat) (E:Env) (ops:Array Oper) (o:Oper) (i:Nat) (U:Option (List Nat)) (n:Nat) (ps:List Plan) (F:Fm) (H:List OB) (Q:Exit→Fm→List OB→Prop):Prop:=ops[i]?=some o→headsOf ps = [(i,U)]→AM P N E ops (n+1) ps F H Q
theorem dkm {P:Program} {k i n:Nat} {U:Option (List Nat)} {ps:List Plan} (hh:headsOf ps = [(i,U)]) (hi:ops[i]?=some o) (ho:okc ops o F=some k) (h:KD k (AM1 P N E ops o i U n ps F H Q)):AM P N E ops (n+1) ps F H Q:=(show AM1 P N E ops o i U n ps F H Q from h) hi hh
theorem zI {P:Program} {i n d:Nat} {x:AV} {ps:List Plan} (hr:Rd P N E o F H x) (h:AM P N E ops n (tailsOf (i,none) ps) ((d,x) :: F) H Q) (hg:gok ops o F=true:=by exact rfl) (hd:o.dst=some d:=by exact rfl) (hN:d < N:=by decide):AM1 P N E ops o i none n ps F H Q:=fun ho hh S ρ a w hR=>by
 obtain⟨h1,h2⟩:=hr S ρ a w hR
 refine zS14 hh rfl ho fun K hK=>?_
 rw[if_pos (zy2 (P:=P) hg hR)]
 unfold Oper.still
 rw[h1]
 refine⟨rfl,hK _ ?_⟩
 rw[hd]
 exact h S ρ _ w (hR.put hN h2)
theorem zG16 {P:Program} {i n d:Nat} {ps:List Plan} (hg:gd ops o F=some false) (hd:o.dst=some d) (hN:d < N) (h:AM P N E ops n (tailsOf (i,none) ps) ((d,un) :: F) H Q):AM1 P N E ops o i none n ps F H Q:=fun ho hh S ρ a w hR=>by
 refine zS14 hh rfl ho fun K hK=>?_
 have hw:¬Region.wanted o (yielded ops a.tmps)=true:=by
  obtain⟨j,b,oj,t,h1,h2,h3,⟨b',h4,h5⟩|⟨h4,h5⟩⟩:=zg9 hg
  ·simp only[Region.wanted,h1,zH1 hR h2 h3 h4]
   cases b <;> cases b' <;> simp_all
  ·simp[Region.wanted,h1,zq3 hR h2 h3 h4]
 rw[if_neg hw,hd]
 exact hK _ (h S ρ _ w (hR.put hN (.c (.s _))))
theorem M5 {i n d:Nat} {v:AV} {ps:List Plan} (h:rdT N ops o F H=some (d,v)) (k:AM Tryz.prog N E ops n (tailsOf (i,none) ps) ((d,v) :: F) H Q):AM1 Tryz.prog N E ops o i none n ps F H Q:=by
 obtain⟨h1,h2,⟨rfl,h3⟩|⟨h3,h4⟩⟩:=zT9 h
 ·exact zG16 h3 h1 h2 k
 ·exact zI (zn2 h4) k h3 h1 h2
theorem zS5 {P:Program} {F2:Fm} {H2:List OB} {i n:Nat} {U:List Nat} {ps:List Plan} (hr:Ef P N E o F H fun F' H'=>F'=F2∧H'=H2) (hU:∀j∈U,Ag P N E ops F2 H2 j) (h:AM P N E ops n (tailsOf (i,some U) ps) F2 H2 Q) (hg:gok ops o F=true:=by exact rfl):AM1 P N E ops o i (some U) n ps F H Q:=fun ho hh S ρ a w hR=>by
 refine zM16 hh rfl ho fun K' hK=>?_
 rw[if_pos (zy2 (P:=P) hg hR)]
 refine zZ (fun a' w' hh=>?_) (hr S ρ a w hR)
 obtain⟨S',ρ',F',H',⟨h1,h2⟩,hR'⟩:=hh
 subst h1;subst h2
 exact hK _ _ (fun j hj=>hU j hj S' ρ' a' w' hR') (h S' ρ' a' w' hR')
theorem WX3 {G A:Prop} (h:G) (hs:Hid G→A:=by(intro h;refine dkm rfl rfl rfl ?_;(first|((with_reducible refine kd 20 ?_);refine M5 rfl ?_)|((with_reducible refine kd 4 ?_);first|refine M5 rfl ?_|refine zI YL ?_|refine zI YK ?_|refine zI YP ?_)|((with_reducible refine kd 1 ?_);first|refine zI Zeql ?_|refine zI Zadd ?_|refine zI Zlss ?_|refine zI Zneq ?_|refine zI Zsub ?_|refine zI Zmul ?_|refine zI Zgtr ?_|refine zI Zleq ?_|refine zI Zgeq ?_|refine zI Zquo ?_|refine zI Zqut ?_|refine zI Zquw ?_|refine zI Zrem ?_|refine zI Zrew ?_|refine zI Ynil ?_|refine zI Yeqb ?_|refine zI Yneb ?_|refine zI Yeqs ?_|refine zI Ynes ?_|refine zI Yads ?_|refine zI Ypn ?_|refine zI Ype ?_)|((with_reducible refine kd 2 ?_);first|refine zS5 Ysto (by(repeat first|exact zh|(refine zg (by first|exact agT rfl rfl rfl rfl|exact agX (hr:=YL)|exact agX (hr:=YK)|exact agX (hr:=YIj)|exact agX (hr:=YJ)|exact agX (hr:=YJo)|exact agX (hr:=YI)|exact agX (hr:=Ybld)|exact agAdd|exact agSub|exact agMul|exact agX (hr:=Ysli)|exact agX (hr:=Yslr)|exact agX (hr:=Zquo)|exact agX (hr:=Zqut)|exact agX (hr:=Zrem)|exact agX (hr:=Yidx)|exact agX (hr:=Ylns)|exact agX (hr:=Yeqs)|exact agX (hr:=Ynes)|exact agX (hr:=Zlss)|exact agX (hr:=Zeql)|exact agX (hr:=Zneq)|exact agX (hr:=zf1 (ty:=0) rfl rfl rfl)|exact agX (hr:=zg1 rfl rfl rfl)|exact agX (hr:=YP)|exact agLk|exact agSe|exact agSn) ?_))) ?_|refine zS5 Ystr (by(repeat first|exact zh|(refine zg (by first|exact agT rfl rfl rfl rfl|exact agX (hr:=YL)|exact agX (hr:=YK)|exact agX (hr:=YIj)|exact agX (hr:=YJ)|exact agX (hr:=YJo)|exact agX (hr:=YI)|exact agX (hr:=Ybld)|exact agAdd|exact agSub|exact agMul|exact agX (hr:=Ysli)|exact agX (hr:=Yslr)|exact agX (hr:=Zquo)|exact agX (hr:=Zqut)|exact agX (hr:=Zrem)|exact agX (hr:=Yidx)|exact agX (hr:=Ylns)|exact agX (hr:=Yeqs)|exact agX (hr:=Ynes)|exact agX (hr:=Zlss)|exact agX (hr:=Zeql)|exact agX (hr:=Zneq)|exact agX (hr:=zf1 (ty:=0) rfl rfl rfl)|exact agX (hr:=zg1 rfl rfl rfl)|exact agX (hr:=YP)|exact agLk|exact agSe|exact agSn) ?_))) ?_|refine zS5 Ystp (by(repeat first|exact zh|(refine zg (by first|exact agT rfl rfl rfl rfl|exact agX (hr:=YL)|exact agX (hr:=YK)|exact agX (hr:=YIj)|exact agX (hr:=YJ)|exact agX (hr:=YJo)|exact agX (hr:=YI)|exact agX (hr:=Ybld)|exact agAdd|exact agSub|exact agMul|exact agX (hr:=Ysli)|exact agX (hr:=Yslr)|exact agX (hr:=Zquo)|exact agX (hr:=Zqut)|exact agX (hr:=Zrem)|exact agX (hr:=Yidx)|exact agX (hr:=Ylns)|exact agX (hr:=Yeqs)|exact agX (hr:=Ynes)|exact agX (hr:=Zlss)|exact agX (hr:=Zeql)|exact agX (hr:=Zneq)|exact agX (hr:=zf1 (ty:=0) rfl rfl rfl)|exact agX (hr:=zg1 rfl rfl rfl)|exact agX (hr:=YP)|exact agLk|exact agSe|exact agSn) ?_))) ?_)|((with_reducible refine kd 3 ?_);first|refine zI YI ?_|refine zI YJ ?_|refine zI YJo ?_)|((with_reducible refine kd 14 ?_);first|refine M5 rfl ?_|refine zI Ylns ?_)|((with_reducible refine kd 15 ?_);refine zI Yidx ?_)|((with_reducible refine kd 5 ?_);first|refine zI Ysli ?_|refine zI Yslr ?_)|((with_reducible refine kd 6 ?_);refine zS5 Ybsl (by(repeat first|exact zh|(refine zg (by first|exact agT rfl rfl rfl rfl|exact agX (hr:=YL)|exact agX (hr:=YK)|exact agX (hr:=YIj)|exact agX (hr:=YJ)|exact agX (hr:=YJo)|exact agX (hr:=YI)|exact agX (hr:=Ybld)|exact agAdd|exact agSub|exact agMul|exact agX (hr:=Ysli)|exact agX (hr:=Yslr)|exact agX (hr:=Zquo)|exact agX (hr:=Zqut)|exact agX (hr:=Zrem)|exact agX (hr:=Yidx)|exact agX (hr:=Ylns)|exact agX (hr:=Yeqs)|exact agX (hr:=Ynes)|exact agX (hr:=Zlss)|exact agX (hr:=Zeql)|exact agX (hr:=Zneq)|exact agX (hr:=zf1 (ty:=0) rfl rfl rfl)|exact agX (hr:=zg1 rfl rfl rfl)|exact agX (hr:=YP)|exact agLk|exact agSe|exact agSn) ?_))) ?_)|((with_reducible refine kd 7 ?_);refine zS5 Yall (by(repeat first|exact zh|(refine zg (by first|exact agT rfl rfl rfl rfl|exact agX (hr:=YL)|exact agX (hr:=YK)|exact agX (hr:=YIj)|exact agX (hr:=YJ)|exact agX (hr:=YJo)|exact agX (hr:=YI)|exact agX (hr:=Ybld)|exact agAdd|exact agSub|exact agMul|exact agX (hr:=Ysli)|exact agX (hr:=Yslr)|exact agX (hr:=Zquo)|exact agX (hr:=Zqut)|exact agX (hr:=Zrem)|exact agX (hr:=Yidx)|exact agX (hr:=Ylns)|exact agX (hr:=Yeqs)|exact agX (hr:=Ynes)|exact agX (hr:=Zlss)|exact agX (hr:=Zeql)|exact agX (hr:=Zneq)|exact agX (hr:=zf1 (ty:=0) rfl rfl rfl)|exact agX (hr:=zg1 rfl rfl rfl)|exact agX (hr:=YP)|exact agLk|exact agSe|exact agSn) ?_))) ?_)|((with_reducible refine kd 8 ?_);refine zS5 Zbox (by(repeat first|exact zh|(refine zg (by first|exact agT rfl rfl rfl rfl|exact agX (hr:=YL)|exact agX (hr:=YK)|exact agX (hr:=YIj)|exact agX (hr:=YJ)|exact agX (hr:=YJo)|exact agX (hr:=YI)|exact agX (hr:=Ybld)|exact agAdd|exact agSub|exact agMul|exact agX (hr:=Ysli)|exact agX (hr:=Yslr)|exact agX (hr:=Zquo)|exact agX (hr:=Zqut)|exact agX (hr:=Zrem)|exact agX (hr:=Yidx)|exact agX (hr:=Ylns)|exact agX (hr:=Yeqs)|exact agX (hr:=Ynes)|exact agX (hr:=Zlss)|exact agX (hr:=Zeql)|exact agX (hr:=Zneq)|exact agX (hr:=zf1 (ty:=0) rfl rfl rfl)|exact agX (hr:=zg1 rfl rfl rfl)|exact agX (hr:=YP)|exact agLk|exact agSe|exact agSn) ?_))) ?_)|((with_reducible refine kd 9 ?_);refine zI Ybld ?_)|((with_reducible refine kd 10 ?_);refine zI Yneg ?_)|((with_reducible refine kd 11 ?_);refine zI Ymkf ?_)|((with_reducible refine kd 12 ?_);refine zS5 Ymak (by(repeat first|exact zh|(refine zg (by first|exact agT rfl rfl rfl rfl|exact agX (hr:=YL)|exact agX (hr:=YK)|exact agX (hr:=YIj)|exact agX (hr:=YJ)|exact agX (hr:=YJo)|exact agX (hr:=YI)|exact agX (hr:=Ybld)|exact agAdd|exact agSub|exact agMul|exact agX (hr:=Ysli)|exact agX (hr:=Yslr)|exact agX (hr:=Zquo)|exact agX (hr:=Zqut)|exact agX (hr:=Zrem)|exact agX (hr:=Yidx)|exact agX (hr:=Ylns)|exact agX (hr:=Yeqs)|exact agX (hr:=Ynes)|exact agX (hr:=Zlss)|exact agX (hr:=Zeql)|exact agX (hr:=Zneq)|exact agX (hr:=zf1 (ty:=0) rfl rfl rfl)|exact agX (hr:=zg1 rfl rfl rfl)|exact agX (hr:=YP)|exact agLk|exact agSe|exact agSn) ?_))) ?_)|((with_reducible refine kd 13 ?_);first|refine zI (zf1 (ty:=0) rfl rfl rfl) ?_|refine zI (zg1 rfl rfl rfl) ?_|refine zI (zQ8 rfl rfl rfl rfl) ?_|refine zI (zR8 rfl rfl rfl rfl) ?_|refine zI (zP8 rfl rfl rfl rfl rfl) ?_));exact h.out)):A:=hs ⟨h⟩
theorem WM {G A:Prop} (h:G) (hs:Hid G→A:=by(intro h;(repeat refine WX3 ?_);exact h.out)):A:=hs ⟨h⟩
theorem WN {G A:Prop} (h:G) (hs:Hid G→A:=by(intro h;(repeat refine WX3 ?_);refine zg18 ?_;(repeat with_reducible first|apply S1|apply S2|apply S3|apply S4|apply S5|apply S6|apply S7|apply S8|refine S0 rfl ?_|apply SA|apply SB|apply SC);exact h.out)):A:=hs ⟨h⟩
theorem AGX {U:List Nat} (h:∀j∈U,Ag Tryz.prog N E ops F H j:=by(repeat first|exact zh|(refine zg (by first|exact agT rfl rfl rfl rfl|exact agX (hr:=YL)|exact agX (hr:=YK)|exact agX (hr:=YIj)|exact agX (hr:=YJ)|exact agX (hr:=YJo)|exact agX (hr:=YI)|exact agX (hr:=Ybld)|exact agAdd|exact agSub|exact agMul|exact agX (hr:=Ysli)|exact agX (hr:=Yslr)|exact agX (hr:=Zquo)|exact agX (hr:=Zqut)|exact agX (hr:=Zrem)|exact agX (hr:=Yidx)|exact agX (hr:=Ylns)|exact agX (hr:=Yeqs)|exact agX (hr:=Ynes)|exact agX (hr:=Zlss)|exact agX (hr:=Zeql)|exact agX (hr:=Zneq)|exact agX (hr:=zf1 (ty:=0) rfl rfl rfl)|exact agX (hr:=zg1 rfl rfl rfl)|exact agX (hr:=YP)|exact agLk|exact agSe|exact agSn) ?_))):∀j∈U,Ag Tryz.prog N E ops F H j:=h
end
end Go.Proofs.YtophoepbedlhjaaGreatDoor
namespace Go.Proofs.YtophoepbedlhjaaGreatDoor
open Go Go.RowKit
section
variable {N:Nat} {E:Env} {F:Fm} {H:List OB} {K:Fm→List OB→Prop}
theorem zR3 {P:Program} {c:Code} {Q:Exit→Fm→List OB→Prop} (h:AW P N E c F H (fun e F H=>Wk N E F H (Q e))):AW P N E c F H Q:=fun S ρ a w hR n=>
 wpIn_mono (h S ρ a w hR n) fun _ a' w' ⟨S1,ρ1,F1,H1,h1,hR1⟩=>by
  obtain⟨S2,ρ2,F2,H2,h2,hR2⟩:=h1 S1 ρ1 a' w' hR1
  exact⟨S2,ρ2,F2,H2,h2,hR2⟩
end
section
variable {P:Program} {N:Nat} {E:Env} {F:Fm} {H:List OB} {K:Fm→List OB→Prop} {Q:Exit→Fm→List OB→Prop} {ops:Array Oper}
theorem zz18 {L:List (Nat × Option (List Nat))} (h:Wk N E F H K) (hk:∀F' H',K F' H'→AT P N E ops L F' H' Q):AT P N E ops L F H Q:=fun S ρ a w hR=>by
 obtain⟨S',ρ',F',H',h1,h2⟩:=h S ρ a w hR
 exact hk F' H' h1 S' ρ' a w h2
theorem zB18 {n:Nat} {ps:List Plan} (h:Wk N E F H K) (hk:∀F' H',K F' H'→AM P N E ops n ps F' H' Q):AM P N E ops n ps F H Q:=fun S ρ a w hR=>by
 obtain⟨S',ρ',F',H',h1,h2⟩:=h S ρ a w hR
 exact hk F' H' h1 S' ρ' a w h2
end
end Go.Proofs.YtophoepbedlhjaaGreatDoor
namespace Go.Proofs.YtophoepbedlhjaaGreatDoor
open Go Go.RowKit
section
variable {P:Program} {N:Nat} {E:Env} {F:Fm} {H:List OB} {o:Oper} {S:Nat→Prop} {ρ:List (Option Nat)} {a:Act} {w:World}
def arrSz (P:Program) (t:TypeId):Option (Nat × TypeId × Nat):=
 match P.underlying t with
 | some (.array n e)=>(P.info? e).map fun i=>(n,e,i.size)
 | _=>none
theorem zs11 {t e:TypeId} {n sz:Nat} (h:arrSz P t=some (n,e,sz)):(underlying t).run P w = .ok (.array n e) w∧(sizeOf e).run P w = .ok sz w:=by
 unfold arrSz at h
 cases hu:P.underlying t with
 | none=>rw[hu] at h;cases h
 | some d=>
  rw[hu] at h
  cases d <;> simp only[reduceCtorEq] at h
  rename_i n' e'
  cases hi:P.info? e' with
  | none=>rw[hi] at h;cases h
  | some i=>
   rw[hi] at h
   simp only[Option.map_some,Option.some.injEq,Prod.mk.injEq] at h
   obtain⟨rfl,rfl,rfl⟩:=h
   exact⟨by unfold underlying;simp[hu],by simp[sizeOf,typeInfo,hi]⟩
theorem zx14 {t e:TypeId} {x ix:Operand} {b k j n i sz:Nat} {kd:IntKind} {z:Int} (ho:o.op = .indexAddr t x ix) (ht:arrSz P t=some (n,e,sz)) (hx:ev F x=some (.p b k j)) (hix:ev F ix=some (.c (.s (.int kd z)))) (hz:z=i) (hi:i < n) :
    Rd P N E o F H (.p b k (j+i*sz)):=fun S ρ a w hR=>by
 obtain⟨h1,h2⟩:=hR.ev hx
 have h3:=(hR.ev hix).1
 simp only[AV.den,CV.den] at h3
 obtain⟨hu,hs⟩:=zs11 (w:=w) ht
 cases h2 with
 | p g0 g=>
  obtain⟨B,hB⟩:=Option.isSome_iff_exists.1 g
  refine⟨?_,.p g0 g⟩
  simp only[execOp,ho,h1,h3,AV.den,hB,Option.map_some,hz,Sem.run_bind,Instr.indexAt,asIntOf,hu,Result.andThen_ok,Sem.run_pure,Instr.sureAddr]
  rw[if_pos (by omega)]
  simp only[Sem.run_bind,hs,Result.andThen_ok,Sem.run_pure,Int.toNat_natCast]
  unfold Addr.add
  split
  ·rename_i h0;rw[h0];rfl
  ·simp only[Nat.add_assoc]
mutual
/-- Pointers to the block's cells, without rows. -/
def AV.nk (b:Nat):AV→Bool
 | .p b' k _=>b' != b || k == 0
 | .a l=>AV.nkL b l
 | .t l=>AV.nkL b l
 | .f _ l=>AV.nkL b l
 | _=>true
def AV.nkL (b:Nat):List AV→Bool
 | []=>true
 | x :: l=>AV.nk b x && AV.nkL b l
end
def OB.nk (b:Nat):OB→Bool
 | .box l=>AV.nkL b l
 | .boxt _ l=>AV.nkL b l
 | .eqv x _=>AV.nk b x
 | _=>true
end
end Go.Proofs.YtophoepbedlhjaaGreatDoor
-- NEWM
namespace Go.Proofs.YtophoepbedlhjaaGreatDoor
open Go Go.RowKit
set_option maxRecDepth 100000
def ascL (l:List UInt8):List AV:=(List.range 256).map fun i=>.c (B (l.any fun c=>c.toNat == i))
theorem zq1 (l:List UInt8):(ascL l).length=256:=by simp[ascL]
theorem zF10:(List.replicate 256 (Value.bool false)).map (fun v=>AV.c (cvOf v))=ascL []:=by
 rw[List.map_replicate,ascL]
 refine List.ext_getElem (by rw[List.length_replicate,List.length_map,List.length_range]) fun i h1 h2=>?_
 rw[List.getElem_replicate,List.getElem_map]
 rfl
theorem zF16 (l:List UInt8) (b:UInt8):(ascL l).drop (0+b.toNat*1) = .c (B (l.contains b)) :: (ascL l).drop (b.toNat+1):=by
 have hb:=b.toNat_lt
 rw[Nat.zero_add,Nat.mul_one,List.drop_eq_getElem_cons (by rw[zq1];omega)]
 congr 1
 simp only[ascL,List.getElem_map,List.getElem_range]
 congr 2
 rw[Bool.eq_iff_iff,List.any_eq_true,List.contains_iff_mem]
 constructor
 ·rintro⟨c,h1,h2⟩
  have h2:c.toNat=b.toNat:=by simpa using h2
  rwa [←UInt8.toNat_inj.1 h2]
 ·intro h;exact⟨b,h,by simp⟩
theorem zl14 (l:List UInt8) (b:UInt8):putL (ascL l) (0+b.toNat*1) [.c (B true)]=ascL (l++[b]):=by
 have hb:=b.toNat_lt
 rw[Nat.zero_add,Nat.mul_one]
 refine List.ext_getElem? fun i=>?_
 rw[zr2 (by rw[zq1];simp;omega)]
 have hat:∀(m:List UInt8) (i:Nat),(ascL m)[i]?=if i < 256 then some (.c (B (m.any fun c=>c.toNat == i))) else none:=fun m i=>by
  unfold ascL
  rw[List.getElem?_map]
  split
  ·rename_i h;rw[List.getElem?_range h];rfl
  ·rename_i h;rw[List.getElem?_eq_none (by simpa using h)];rfl
 rw[hat,hat]
 simp only[List.length_singleton]
 by_cases hi:b.toNat≤i∧i < b.toNat+1
 ·obtain rfl:i=b.toNat:=by omega
  rw[if_pos ⟨by omega,by omega⟩,if_pos (by omega),Nat.sub_self]
  simp
 ·rw[if_neg hi]
  have:(b.toNat == i)=false:=by simp;omega
  simp[List.any_append,this]
theorem zX (l:List UInt8):AV.cloL (ascL l)=true:=by
 have:∀m:List CV,AV.cloL (m.map .c)=true:=fun m=>by
  induction m with
  | nil=>rfl
  | cons x m ih=>rw[List.map_cons,AV.cloL,AV.clo];exact ih
 have e:ascL l=((List.range 256).map fun i=>B (l.any fun c=>c.toNat == i)).map .c:=by rw[ascL,List.map_map];rfl
 rw[e];exact this _
theorem zE10 (l:List UInt8):(ascL l).all AV.one=true:=by
 rw[List.all_eq_true]
 intro x hx
 obtain⟨i,_,rfl⟩:=List.mem_map.1 hx
 rfl
theorem zG10 (m l:List UInt8):putL (ascL m) 0 (ascL l)=ascL l:=by
 unfold putL
 rw[List.take_zero,List.nil_append,Nat.zero_add,List.drop_eq_nil_of_le (by rw[zq1,zq1];exact Nat.le_refl _),List.append_nil]
theorem zD10 (l:List UInt8) (b:UInt8):ACalls Tryz.prog 298 [.p 0 0 0,.c (.s (.int .u8 b.toNat))] [.box (ascL l)] fun u H=>u = .c (B (l.contains b))∧H = [.box (ascL l)]:=by
 refine zf (N:=10) Tryz.func298 rfl rfl (by simp) fun E hE=>?_
 refine WA ?_
 refine ZR ?_
 iterate 3 refine WX1 ?_
 refine ZA (zx14 (i:=b.toNat) (n:=256) (e:=4) (sz:=1) rfl (by kernel_rfl) rfl rfl rfl (by have:=b.toNat_lt;omega)) ?_
 refine ZA (zm5 rfl (by kernel_rfl) rfl (Cells.box rfl) (zF16 l b)) ?_
 refine WE ?_
 exact zA1 [some 0] [.box (ascL l)] rfl rfl rfl (by decide) (ZNK rfl) (fun _=>.box rfl (C0 (zX l)) .nil) ⟨rfl,rfl⟩
theorem zd9 (l:List UInt8) (h8:∀b∈l,b < 128) (hl:l.length≤1000000):ACalls Tryz.prog 231 [.c (T l)] [] fun u H=>u = .t [.a (ascL l),.c (B true)]∧H = []:=by
 refine zf (N:=21) Tryz.func231 rfl rfl (by simp) fun E hE=>?_
 refine ZR ?_
 refine ze rfl (zw7 (z:=.agg (List.replicate 256 (Value.bool false)).toArray) (vs:=List.replicate 256 (.bool false)) rfl rfl (by decide) (by kernel_rfl) rfl (by decide +kernel)) ?_
 rintro _ _ ⟨rfl,rfl⟩
 rw[zF10]
 refine WE ?_
 refine WA ?_
 refine zq (fun m F H=>∃k:Nat,m+k=l.length∧F = [(0,.c (T l)),(2,.p 0 0 0),(4,.c (I k))]∧H = [.box (ascL (l.take k))]) ?_ ?_
 ·refine wkg [some 0] (fun _=>[(0,.c (T l)),(2,.p 0 0 0),(4,.c (I (0:Nat)))]) (fun _=>[.box (ascL [])]) (fun _=>?_) (hH:=fun _=>.box rfl (C0 (zX _)) .nil)
  exact⟨l.length,0,by omega,rfl,rfl⟩
 rintro m F H ⟨k,hk,rfl,rfl⟩
 have hsz:=zu1 l
 by_cases hlt:k < l.length
 ·obtain⟨b,hb⟩:∃b,l[k]?=some b:=⟨_,List.getElem?_eq_getElem hlt⟩
  have hb8:¬(128:Int)≤(b.toNat:Int):=by have:=h8 b (List.mem_of_getElem? hb);have:b.toNat < 128:=this;omega
  have htk:l.take (k+1)=l.take k++[b]:=by rw[List.take_add_one,hb];rfl
  refine WA ?_
  refine zb rfl ?_
  refine ZR ?_
  iterate 2 refine WX1 ?_
  refine ZA (zb2 (i:=k) rfl Tryz.underlying9 rfl rfl rfl hb) ?_
  refine WE ?_
  refine WA ?_
  refine za rfl ?_
  refine ZR ?_
  refine WX1 ?_
  refine ZA (zx14 (i:=b.toNat) (n:=256) (e:=4) (sz:=1) rfl (by kernel_rfl) rfl rfl rfl (by have:=b.toNat_lt;omega)) ?_
  refine ze rfl (zk3 (k:=1) rfl rfl rfl rfl rfl (by kernel_rfl) rfl (by rw[zq1];have:=b.toNat_lt;omega) rfl (zl14 _ b) rfl) ?_
  rintro _ _ ⟨rfl,rfl⟩
  refine WE ?_
  refine WA ?_
  refine wkg [some 0] (fun _=>[(0,.c (T l)),(2,.p 0 0 0),(4,.c (I (k+1:Nat)))]) (fun _=>[.box (ascL (l.take k++[b]))]) (fun _=>?_) (hH:=fun _=>.box rfl (C0 (zX _)) .nil)
  exact⟨m - 1,by omega,k+1,by omega,rfl,by rw[htk]⟩
 obtain rfl:k=l.length:=by omega
 rw[List.take_length]
 refine WA ?_
 refine za rfl ?_
 refine ZR ?_
 refine ZA (zQ9 (k:=256) (cs':=ascL l) rfl (by kernel_rfl) rfl (Cells.box rfl) (by rw[List.drop_zero,List.take_of_length_le (by rw[zq1];exact Nat.le_refl _)]) (by rw[List.drop_zero,zq1];exact Nat.le_refl _)) ?_
 refine ze rfl (zk3 (k:=256) (l':=ascL l) rfl rfl rfl rfl rfl (by kernel_rfl) (zq1 l) (by rw[zq1];exact Nat.le_refl _) (zE10 l) (zG10 _ l) rfl) ?_
 rintro _ _ ⟨rfl,rfl⟩
 refine WE ?_
 exact zA (us:=[.a (ascL l),.c (B true)]) [] (fun _=>.t [.a (ascL l),.c (B true)]) (fun _=>[]) (.cella (n:=256) rfl (by kernel_rfl) (Cells.box rfl) (by rw[List.drop_zero,zq1];exact Nat.le_refl _) (by rw[List.drop_zero,List.take_of_length_le (by rw[zq1];exact Nat.le_refl _)]) (.tmp rfl .nil)) (by decide) (fun i hi=>absurd hi (Nat.not_lt_zero i)) (fun _=>.tL (.cons (.aL (C0 (zX l))) (.cons (.c rfl) .nil))) (fun _=>.nil) (fun _=>⟨rfl,rfl⟩)
end Go.Proofs.YtophoepbedlhjaaGreatDoor
-- NEWM
namespace Go.Proofs.YtophoepbedlhjaaGreatDoor
open Go Go.RowKit
set_option maxRecDepth 100000
def trR (p:UInt8→Bool) (s:List UInt8):List UInt8:=(s.reverse.dropWhile p).reverse
abbrev trB (cut s:List UInt8):List UInt8:=(trR (fun b=>cut.contains b) s).dropWhile fun b=>cut.contains b
theorem zx13 (p:UInt8→Bool) (s:List UInt8) (b:UInt8):trR p (s++[b])=if p b=true then trR p s else s++[b]:=by
 unfold trR
 rw[List.reverse_append,List.reverse_singleton,List.singleton_append,List.dropWhile_cons]
 split
 ·rfl
 ·rw[List.reverse_cons,List.reverse_reverse]
theorem ze15 (p:UInt8→Bool) (s:List UInt8):(trR p s).length≤s.length:=by
 unfold trR
 rw[List.length_reverse]
 have:=(List.dropWhile_suffix (l:=s.reverse) p).length_le
 rwa [List.length_reverse] at this
theorem zL5 (p:UInt8→Bool):∀s:List UInt8,s.dropWhile p = []↔∀b∈s,p b=true
 | []=>by simp
 | a :: s=>by
  rw[List.dropWhile_cons]
  split
  ·rename_i h;rw[zL5 p s];simp[h]
  ·rename_i h;simp[h]
theorem zH11 (cut s:List UInt8):trB cut s = []↔∀b∈s,cut.contains b=true:=by
 have e0:(∀b∈s,cut.contains b=true)↔∀b∈s,(fun b=>cut.contains b) b=true:=Iff.rfl
 rw[e0]
 unfold trB
 generalize (fun b=>cut.contains b)=p
 rw[zL5]
 constructor
 ·intro h
  have hn:trR p s = []:=by
   rcases List.eq_nil_or_concat (trR p s) with e|⟨l,b,e⟩
   ·exact e
   ·exfalso
    rw[List.concat_eq_append] at e
    have hb:=h b (by rw[e];simp)
    unfold trR at e
    have e2:s.reverse.dropWhile p=b :: l.reverse:=by
     have:=congrArg List.reverse e
     simpa using this
    have:=List.head_dropWhile_not p (l:=s.reverse) (by rw[e2];simp)
    simp only[e2,List.head_cons] at this
    rw[this] at hb;cases hb
  unfold trR at hn
  have:=(zL5 p s.reverse).1 (List.reverse_eq_nil_iff.1 hn)
  intro b hb
  exact this b (by simpa using hb)
 ·intro h b hb
  unfold trR at hb
  exact h b (by
   have:=(List.dropWhile_suffix (l:=s.reverse) p).subset (List.mem_reverse.1 hb)
   simpa using this)
theorem zJ {P:Program} {N:Nat} {E:Env} {F:Fm} {H:List OB} {o:Oper} {t yt:TypeId} {x y:Operand} {a b:List UInt8} {q:Bool} (h:decide (a=b)=q) (ho:o.op = .binOp .eql t x y yt) (ht:P.underlying t=some .string) (hx:ev F x=some (.c (T a))) (hy:ev F y=some (.c (T b))):Rd P N E o F H (.c (B q)):=h▸zT8 ho ht hx hy
theorem zc15 (cut s:List UInt8) (hl:s.length≤1000000000):ACalls Tryz.prog 233 [.c (T s),.p 0 0 0] [.box (ascL cut)] fun u H=>u = .c (T (trR (fun b=>cut.contains b) s))∧H = [.box (ascL cut)]:=by
 refine zf (N:=22) Tryz.func233 rfl rfl (by simp) fun E hE=>?_
 refine WA ?_
 refine zq (fun m F H=>∃r:List UInt8,r.length=m∧r.length≤1000000000∧trR (fun b=>cut.contains b) r=trR (fun b=>cut.contains b) s∧F = [(0,.c (T r)),(1,.p 0 0 0)]∧H = [.box (ascL cut)]) ?_ ?_
 ·refine wkg [some 0] (fun _=>[(0,.c (T s)),(1,.p 0 0 0)]) (fun _=>[.box (ascL cut)]) (fun _=>?_) (hH:=fun _=>.box rfl (C0 (zX _)) .nil)
  exact⟨_,s,rfl,hl,rfl,rfl,rfl⟩
 rintro m F H ⟨r,hm,hrl,hr,rfl,rfl⟩
 rcases List.eq_nil_or_concat r with rfl|⟨r1,b,rfl⟩
 ·refine WA ?_
  refine zm rfl (by simp) ?_
  refine WA ?_
  exact zA1 [some 0] [.box (ascL cut)] rfl rfl rfl (by decide) (ZNK rfl) (fun _=>.box rfl (C0 (zX _)) .nil) ⟨by rw[←hr];rfl,rfl⟩
 rw[List.concat_eq_append] at *
 have hb:(r1++[b])[r1.length]?=some b:=by simp
 have hlen:((r1++[b]).length:Int)=(r1.length:Int)+1:=by simp
 have hsn:=zx13 (fun b=>cut.contains b) r1 b
 have hlr:r1.length≤1000000000:=by rw[List.length_append] at hrl;omega
 refine WA ?_
 refine zb rfl ?_
 obtain⟨q,hq⟩:∃q,cut.contains b=q:=⟨_,rfl⟩
 refine ZR ?_
 iterate 5 refine WX1 ?_
 refine ZA (zb2 (i:=r1.length) rfl Tryz.underlying9 rfl rfl (by first|(simp;done)|(simp;omega)) hb) ?_
 refine ze rfl (zO [0] (fun _=>[.box (ascL cut)]) false (fun _=>zD10 cut b) rfl .fn rfl (by decide) (by kernel_rfl) rfl (fun _=>.cons (.p rfl) (.cons (.c rfl) .nil)) (by decide) (fun _=>.box rfl (C0 (zX _)) .nil) (by simp)) ?_
 rintro F1 H1 ⟨_,_,_,_,⟨rfl,rfl⟩,hF,hH⟩
 rw[hq] at hF
 (refine NSU hF hH ?_;clear hF hH;rintro rfl rfl)
 refine WE ?_
 cases q with
 | true=>
  rw[if_pos hq] at hsn
  refine za rfl ?_
  refine ZR ?_
  iterate 4 refine WX1 ?_
  refine ZA (zc3 (i:=0) (j:=r1.length) rfl Tryz.underlying9 rfl (.inl ⟨rfl,rfl⟩) (.inr ⟨_,_,_,rfl,rfl,by simp⟩) (by first|(simp;done)|(simp;omega)) (by first|(simp;done)|(simp;omega))) ?_
  refine WE ?_
  refine wkg [some 0] (fun _=>[(0,.c (T r1)),(1,.p 0 0 0)]) (fun _=>[.box (ascL cut)]) (fun _=>?_) (hH:=fun _=>.box rfl (C0 (zX _)) .nil)
  exact⟨_,by rw[←hm,List.length_append];exact Nat.lt_succ_self _,r1,rfl,hlr,by rw[←hr,hsn],rfl,rfl⟩
 | false=>
  rw[if_neg (by rw[hq];simp)] at hsn
  refine zb rfl ?_
  refine WA ?_
  exact zA1 [some 0] [.box (ascL cut)] rfl rfl rfl (by decide) (ZNK rfl) (fun _=>.box rfl (C0 (zX _)) .nil) ⟨by rw[←hr,hsn],rfl⟩
theorem zd15 (cut s:List UInt8) (hl:s.length≤1000000000):ACalls Tryz.prog 232 [.c (T s),.p 0 0 0] [.box (ascL cut)] fun u H=>u = .c (T (s.dropWhile fun b=>cut.contains b))∧H = [.box (ascL cut)]:=by
 refine zf (N:=16) Tryz.func232 rfl rfl (by simp) fun E hE=>?_
 refine WA ?_
 refine zq (fun m F H=>∃r:List UInt8,r.length=m∧r.length≤1000000000∧(r.dropWhile fun b=>cut.contains b)=(s.dropWhile fun b=>cut.contains b)∧F = [(0,.c (T r)),(1,.p 0 0 0)]∧H = [.box (ascL cut)]) ?_ ?_
 ·refine wkg [some 0] (fun _=>[(0,.c (T s)),(1,.p 0 0 0)]) (fun _=>[.box (ascL cut)]) (fun _=>?_) (hH:=fun _=>.box rfl (C0 (zX _)) .nil)
  exact⟨_,s,rfl,hl,rfl,rfl,rfl⟩
 rintro m F H ⟨r,hm,hrl,hr,rfl,rfl⟩
 cases r with
 | nil=>
  refine WA ?_
  refine zm rfl (by simp) ?_
  refine WA ?_
  exact zA1 [some 0] [.box (ascL cut)] rfl rfl rfl (by decide) (ZNK rfl) (fun _=>.box rfl (C0 (zX _)) .nil) ⟨by rw[←hr];rfl,rfl⟩
 | cons b r1=>
 have hb:(b :: r1)[0]?=some b:=rfl
 have hlr:r1.length≤1000000000:=by rw[List.length_cons] at hrl;omega
 rw[List.dropWhile_cons] at hr
 obtain⟨q,hq⟩:∃q,cut.contains b=q:=⟨_,rfl⟩
 rw[hq] at hr
 refine WA ?_
 refine zo rfl (by first|(simp;done)|(simp;omega)) ?_
 refine ZR ?_
 iterate 2 refine WX1 ?_
 refine ZA (zb2 (i:=0) rfl Tryz.underlying9 rfl rfl (by first|(simp;done)|(simp;omega)) hb) ?_
 refine ze rfl (zO [0] (fun _=>[.box (ascL cut)]) false (fun _=>zD10 cut b) rfl .fn rfl (by decide) (by kernel_rfl) rfl (fun _=>.cons (.p rfl) (.cons (.c rfl) .nil)) (by decide) (fun _=>.box rfl (C0 (zX _)) .nil) (by simp)) ?_
 rintro F1 H1 ⟨_,_,_,_,⟨rfl,rfl⟩,hF,hH⟩
 rw[hq] at hF
 (refine NSU hF hH ?_;clear hF hH;rintro rfl rfl)
 refine WE ?_
 cases q with
 | true=>
  rw[if_pos rfl] at hr
  refine za rfl ?_
  refine ZR ?_
  refine WX1 ?_
  refine ZA (zc3 (i:=1) (j:=(r1.length+1)) rfl Tryz.underlying9 rfl (.inr ⟨_,_,_,rfl,rfl,rfl⟩) (.inl ⟨rfl,rfl⟩) (by first|(simp;done)|(simp;omega)) (by first|(simp;done)|(simp;omega))) ?_
  refine WE ?_
  refine wkg [some 0] (fun _=>[(0,.c (T r1)),(1,.p 0 0 0)]) (fun _=>[.box (ascL cut)]) (fun _=>?_) (hH:=fun _=>.box rfl (C0 (zX _)) .nil)
  exact⟨_,by rw[←hm,List.length_cons];exact Nat.lt_succ_self _,r1,rfl,hlr,hr,rfl,rfl⟩
 | false=>
  rw[if_neg (by simp)] at hr
  refine zb rfl ?_
  refine WA ?_
  exact zA1 [some 0] [.box (ascL cut)] rfl rfl rfl (by decide) (ZNK rfl) (fun _=>.box rfl (C0 (zX _)) .nil) ⟨by rw[←hr],rfl⟩
theorem zc4 (cut s:List UInt8) (h8:∀b∈cut,b < 128) (hc:2≤cut.length∧cut.length≤1000000) (hl:s.length≤1000000000):ACalls Tryz.prog 148 [.c (T s),.c (T cut)] [] fun u H=>u = .c (T (trB cut s))∧H = []:=by
 have hcn:¬cut = []:=fun e=>by rw[e] at hc;simp at hc
 refine zf (N:=43) Tryz.func148 rfl rfl (by simp) fun E hE=>?_
 by_cases hs:s = []
 ·subst hs
  refine WA ?_
  refine ZR ?_
  refine WX1 ?_
  refine ZA (zJ (b:=[]) (decide_eq_true rfl) rfl Tryz.underlying9 rfl rfl) ?_
  iterate 2 refine WX1 ?_
  first|refine ZP (zJ (b:=[]) (decide_eq_false hcn) rfl Tryz.underlying9 rfl rfl) ?_|refine ZS ?_
  refine WE ?_
  refine zb rfl ?_
  refine WA ?_
  exact arz (q:=⟨rfl,rfl⟩)
 refine WA ?_
 refine ZR ?_
 refine WX1 ?_
 refine ZA (zJ (b:=[]) (decide_eq_false hs) rfl Tryz.underlying9 rfl rfl) ?_
 iterate 2 refine WX1 ?_
 first|refine ZP (zJ (b:=[]) (decide_eq_false hcn) rfl Tryz.underlying9 rfl rfl) ?_|refine ZS ?_
 refine WE ?_
 refine za rfl ?_
 have hc1:¬(cut.length:Int)=1:=by omega
 refine WA ?_
 refine za rfl ?_
 refine WR ?_
 refine ze rfl (efk (c:=fun _=>zd9 cut h8 (by omega))) ?_
 rintro _ _ ⟨_,_,_,⟨rfl,rfl⟩,hF,hH⟩
 generalize hAA:ascL cut=AA at hF
 (refine NST hF hH ?_;clear hF hH;rintro rfl rfl)
 subst hAA
 iterate 3 refine WX1 ?_
 refine ze rfl (zw7 (z:=.agg (List.replicate 256 (Value.bool false)).toArray) (vs:=List.replicate 256 (.bool false)) rfl rfl (by decide) (by kernel_rfl) rfl (by decide +kernel)) ?_
 rintro _ _ ⟨rfl,rfl⟩
 rw[zF10]
 refine ze rfl (zk3 (k:=256) (l':=ascL cut) rfl rfl rfl rfl rfl (by kernel_rfl) (zq1 cut) (by rw[zq1];exact Nat.le_refl _) (zE10 cut) (zG10 _ cut) rfl) ?_
 rintro _ _ ⟨rfl,rfl⟩
 refine WE ?_
 refine WA ?_
 refine zb rfl ?_
 have hl2:=ze15 (fun b=>cut.contains b) s
 refine WR ?_
 refine ze rfl (zO [0] (fun _=>[.box (ascL cut)]) false (fun _=>zc15 cut s hl) rfl .fn rfl (by decide) (by kernel_rfl) rfl (fun _=>.cons (.c rfl) (.cons (.p rfl) .nil)) (by decide) (fun _=>.box rfl (C0 (zX _)) .nil) (by simp)) ?_
 rintro F1 H1 ⟨_,_,_,_,⟨rfl,rfl⟩,hF,hH⟩
 (refine NSU hF hH ?_;clear hF hH;rintro rfl rfl)
 refine ze rfl (zO [0] (fun _=>[.box (ascL cut)]) false (fun _=>zd15 cut _ (by omega)) rfl .fn rfl (by decide) (by kernel_rfl) rfl (fun _=>.cons (.c rfl) (.cons (.p rfl) .nil)) (by decide) (fun _=>.box rfl (C0 (zX _)) .nil) (by simp)) ?_
 rintro F1 H1 ⟨_,_,_,_,⟨rfl,rfl⟩,hF,hH⟩
 (refine NSU hF hH ?_;clear hF hH;rintro rfl rfl)
 refine WE ?_
 exact arz (q:=⟨rfl,rfl⟩)
end Go.Proofs.YtophoepbedlhjaaGreatDoor
