/- strings.Builder, by value. -/
import Derived.Test.YtophoepbedlhjaaGreatDoorQav
import Derived.Test.YtophoepbedlhjaaGreatDoorQaw
import Derived.Test.YtophoepbedlhjaaGreatDoorQas
import Derived.Test.YtophoepbedlhjaaGreatDoorQap
import Derived.Test.YtophoepbedlhjaaGreatDoorQau
import Derived.Test.YtophoepbedlhjaaGreatDoorQan
import Derived.Lib.UnsafeStr
import Derived.Laws.Pointers
import Derived.LaidEqlPtr
import Derived.Laws.LoneSync
set_option linter.unusedSimpArgs false
set_option linter.unusedVariables false
namespace Go.Proofs.YtophoepbedlhjaaGreatDoor
open Go Go.RowKit
def encSt:Enc (List UInt8):=⟨fun s=>.string (bst s),fun s=>.c (T s),fun s ρ H=>rfl,fun s w S ρ H=>.c (.s _)⟩
def encIn:Enc Int:=⟨fun z=>.int .i64 z,fun z=>.c (I z),fun z ρ H=>rfl,fun z w S ρ H=>.c (.s _)⟩
theorem keySt:KeyOk Tryz.prog 9 encSt:=by
 refine .now Tryz.underlying9 (fun a b=>?_) (fun b a w=>?_) (fun a=>?_)
 ·show some _=_
  congr 1
  rw[Bool.eq_iff_iff,decide_eq_true_iff]
  show ((bst a).data == (bst b).data)=true↔a=b
  simp
 ·simp only[encSt]
  rw[show (10000:Nat)=9999+1 from rfl,Instr.checkKey]
  simp only[Sem.run_bind,zJ Tryz.underlying9,Result.andThen_ok]
  rfl
 ·simp[encSt,Instr.sameBits]
  first|exact beq_self_eq_true _|exact(show ((bst a).data == (bst a).data)=true by simp)|rfl
abbrev mSI (l:List (Nat × List UInt8 × Int)) (ck:Nat):OB:=mpO encSt encIn l ck
abbrev mSS (l:List (Nat × List UInt8 × List UInt8)) (ck:Nat):OB:=mpO encSt encSt l ck
section
variable {N:Nat} {E:Env} {F:Fm} {H:List OB} {o:Oper} {b ck:Nat} {k:List UInt8}
theorem zf4 {x ix:Operand} {l:List (Nat × List UInt8 × Int)} {q:Int} (hq:(mget l k).getD 0=q) (ho:o.op = .lookup 112 x ix false) (hx:ev F x=some (.mp b)) (hH:H[b]?=some (mSI l ck)) (hi:ev F ix=some (.c (T k))):Rd Tryz.prog N E o F H (.c (I q)):=by
 have:=ze3 (N:=N) (E:=E) (ke:=encSt) (ve:=encIn) (k:=k) (z:=0) keySt ho Tryz.underlying112 (by kernel_rfl) hx hH hi (fun ρ H=>encSt.den k ρ H)
 rwa [hq] at this
theorem zr4 {x ix y:Operand} {l:List (Nat × List UInt8 × Int)} {z:Int} (ho:o.op = .mapUpdate 112 x ix y) (hd:o.dst=none) (hx:ev F x=some (.mp b)) (hH:H[b]?=some (mSI l ck)) (hi:ev F ix=some (.c (T k))) (hy:ev F y=some (.c (I z))) :
    Ef Tryz.prog N E o F H fun F' H'=>F'=F∧H'=H.set b (mSI (mset ck k z l) (mclk ck k l)):=
 zj3 (ke:=encSt) (ve:=encIn) (k:=k) (z:=z) keySt ho hd Tryz.underlying112 hx hH hi (fun ρ H=>encSt.den k ρ H) hy (fun ρ H=>encIn.den z ρ H)
theorem zh5 {x ix:Operand} {l:List (Nat × List UInt8 × List UInt8)} {q:List UInt8} (hq:(mget l k).getD []=q) (ho:o.op = .lookup 110 x ix false) (hx:ev F x=some (.mp b)) (hH:H[b]?=some (mSS l ck)) (hi:ev F ix=some (.c (T k))):Rd Tryz.prog N E o F H (.c (T q)):=by
 have:=ze3 (N:=N) (E:=E) (ke:=encSt) (ve:=encSt) (k:=k) (z:=[]) keySt ho Tryz.underlying110 (by kernel_rfl) hx hH hi (fun ρ H=>encSt.den k ρ H)
 rwa [hq] at this
theorem zm3 {x ix:Operand} {l:List (Nat × List UInt8 × List UInt8)} {q:List UInt8} {c:Bool} (hq:(mget l k).getD []=q) (hc:(mget l k).isSome=c) (ho:o.op = .lookup 110 x ix true) (hx:ev F x=some (.mp b)) (hH:H[b]?=some (mSS l ck)) (hi:ev F ix=some (.c (T k))):Rd Tryz.prog N E o F H (.t [.c (T q),.c (B c)]):=by
 have:=zD9 (N:=N) (E:=E) (ke:=encSt) (ve:=encSt) (k:=k) (z:=[]) keySt ho Tryz.underlying110 (by kernel_rfl) hx hH hi (fun ρ H=>encSt.den k ρ H)
 rwa [hq,hc] at this
theorem zy6 {x ix y:Operand} {l:List (Nat × List UInt8 × List UInt8)} {z:List UInt8} (ho:o.op = .mapUpdate 110 x ix y) (hd:o.dst=none) (hx:ev F x=some (.mp b)) (hH:H[b]?=some (mSS l ck)) (hi:ev F ix=some (.c (T k))) (hy:ev F y=some (.c (T z))) :
    Ef Tryz.prog N E o F H fun F' H'=>F'=F∧H'=H.set b (mSS (mset ck k z l) (mclk ck k l)):=
 zj3 (ke:=encSt) (ve:=encSt) (k:=k) (z:=z) keySt ho hd Tryz.underlying110 hx hH hi (fun ρ H=>encSt.den k ρ H) hy (fun ρ H=>encSt.den z ρ H)
theorem zr11 {x ix:Operand} {l:List (Nat × List UInt8 × List UInt8)} (ho:o.op = .call { callee:=.builtin .delete,args:=#[x,ix],argTypes:=#[110,9] }) (hd:o.dst=none) (hx:ev F x=some (.mp b)) (hH:H[b]?=some (mSS l ck)) (hi:ev F ix=some (.c (T k))) :
    Ef Tryz.prog N E o F H fun F' H'=>F'=F∧H'=H.set b (mSS (mdel k l) ck):=
 zq11 (ke:=encSt) (ve:=encSt) (k:=k) keySt ho hd Tryz.underlying110 hx hH hi (fun ρ H=>encSt.den k ρ H)
end
end Go.Proofs.YtophoepbedlhjaaGreatDoor
namespace Go.Proofs.YtophoepbedlhjaaGreatDoor
open Go Go.RowKit
section
variable {P:Program} {N:Nat} {E:Env} {S:Nat→Prop} {ρ:List (Option Nat)} {F:Fm} {H:List OB} {a:Act} {w:World} {K:Fm→List OB→Prop} {Q:Exit→Fm→List OB→Prop}
def PE.ob:PE→OB
 | .bx _ l=>.box (l.map .c)
 | .ar _ _ _ e sz cap rows=>.arr e sz cap rows
 | .out=>.dead
def PE.val:PE→Value
 | .bx v _=>v
 | .ar v ..=>v
 | .out=>undef
def PE.av (b:Nat):PE→AV
 | .bx _ _=>.p b 0 0
 | .ar _ n c ..=>.o b 0 n c
 | .out=>.c (.s undef)
theorem zb9 {α:Type} {l:List α} {k:Nat} {x y:α} (h:y∈l.set k x):y=x∨y∈l:=(List.mem_or_eq_of_mem_set h).symm
theorem hasP_set {l:List PE} {k j B:Nat} (h:(OB.pool (l.set k .out)).hasP j B):j≠k∧(OB.pool l).hasP j B:=by
 obtain⟨l',e,h1,h2,h3⟩:=h
 injection h1 with h1
 subst h1
 rw[List.getElem?_set] at h2
 split at h2
 ·split at h2
  ·injection h2 with h2;subst h2;cases h3
  ·cases h2
 ·rename_i hne
  exact⟨fun e=>hne e.symm,l,e,rfl,h2,h3⟩
theorem R.take {p k:Nat} {l:List PE} {e:PE} (h:R N E S ρ F H a w) (hp:H[p]?=some (.pool l)) (hk:l[k]?=some e) (hne:e≠.out):∃m,R N E S (ρ++[m]) F (H.set p (.pool (l.set k .out))++[e.ob]) a w∧(e.av H.length).den (ρ++[m]) (H.set p (.pool (l.set k .out))++[e.ob])=e.val∧WF w S (ρ++[m]) (H.set p (.pool (l.set k .out))++[e.ob]) (e.av H.length):=by
 have hpl:p < H.length:=(List.getElem?_eq_some_iff.1 hp).1
 have hbl:=h.hp.blk p _ hp
 have hok:=hbl.2 e (List.mem_of_getElem? hk)
 let H1:=H.set p (.pool (l.set k .out))
 have hlen1:H1.length=H.length:=by simp[H1]
 have he1:Ex ρ H ρ H1:=Ex.set hp rfl rfl (fun _=>rfl)
 have he:Ex ρ H (ρ++[e.blk]) (H1++[e.ob]):=by
  have h2:=Ex.snoc (ρ:=ρ) (H:=H1) (by rw[hlen1];exact h.hp.len) e.blk e.ob
  refine⟨fun b hb=>by rw[h2.at_ b (by rw[hlen1];exact hb)],fun b hb=>by rw[h2.sz b (by rw[hlen1];exact hb),he1.sz b hb],fun b hb=>by rw[h2.cap b (by rw[hlen1];exact hb),he1.cap b hb],by simp[hlen1],fun b o hb hs=>?_⟩
  obtain⟨o',h3,h4⟩:=he1.bx b o hb hs
  obtain⟨o2,h5,h6⟩:=h2.bx b o' h3 (by rw[h4];exact hs)
  exact⟨o2,h5,h6.trans h4⟩
 have hobnp:∀k B,¬e.ob.hasP k B:=fun k B hq=>by
  obtain⟨l',hl'⟩:=zp1 hq
  cases e <;> cases hl'
 have hin:∀i j B,inP (H1++[e.ob]) i j B→inP H i j B∧¬(i=p∧j=k):=fun i j B hi=>by
  obtain⟨o,h1,h2⟩:=zr3 hobnp hi
  rw[List.getElem?_set] at h1
  split at h1
  ·rename_i hpi
   subst hpi
   try rw[if_pos hpl] at h1
   injection h1 with h1
   subst h1
   obtain⟨h3,h4⟩:=hasP_set h2
   exact⟨⟨_,hp,h4⟩,fun h=>h3 h.2⟩
  ·rename_i hpi
   exact⟨⟨o,h1,h2⟩,fun h=>hpi h.1.symm⟩
 have hat:∀i,atB (ρ++[e.blk]) i=if i=H.length then e.blk else atB ρ i:=fun i=>by rw[zr,h.hp.len]
 have hsrc:∀i B,atB (ρ++[e.blk]) i=some B→(i≠H.length∧atB ρ i=some B)∨(i=H.length∧e.blk=some B∧inP H p k B):=fun i B hi=>by
  rw[hat] at hi
  split at hi
  ·rename_i hii;exact .inr ⟨hii,hi,_,hp,l,e,rfl,hk,hi⟩
  ·rename_i hii;exact .inl ⟨hii,hi⟩
 have hR:R N E S (ρ++[e.blk]) F (H1++[e.ob]) a w:=by
  refine h.ex he Mo.refl ⟨by simp[hlen1,h.hp.len],fun i i' B hi hi'=>?_,fun i B hi=>?_,fun i B hi=>?_,h.hp.sS,fun i o ho=>?_,⟨fun i j i' j' B h1 h2=>h.hp.pl.pd _ _ _ _ _ (hin _ _ _ h1).1 (hin _ _ _ h2).1,fun i j B h1=>?_⟩⟩ h.st (fun i B hi=>?_) h.nS (fun i j B hi=>h.pw _ _ _ (hin _ _ _ hi).1)
  ·rcases hsrc i B hi with⟨e1,e2⟩|⟨e1,e2,e3⟩ <;> rcases hsrc i' B hi' with⟨f1,f2⟩|⟨f1,f2,f3⟩
   ·exact h.hp.nd _ _ _ e2 f2
   ·exact absurd e2 ((h.hp.pl.ps _ _ _ f3).2.1 i)
   ·exact absurd f2 ((h.hp.pl.ps _ _ _ e3).2.1 i')
   ·omega
  ·rcases hsrc i B hi with⟨e1,e2⟩|⟨e1,e2,e3⟩
   ·exact h.hp.ap _ _ e2
   ·exact(h.hp.pl.ps _ _ _ e3).1
  ·rcases hsrc i B hi with⟨e1,e2⟩|⟨e1,e2,e3⟩
   ·exact h.hp.lt _ _ e2
   ·exact(h.hp.pl.ps _ _ _ e3).2.2
  ·rcases Nat.lt_or_ge i H.length with hil|hil
   ·rw[List.getElem?_append_left (by rw[hlen1];exact hil)] at ho
    rw[hat,if_neg (by omega)]
    rw[List.getElem?_set] at ho
    split at ho
    ·rename_i hpi
     subst hpi
     try rw[if_pos hpl] at ho
     injection ho with ho
     subst ho
     refine⟨hbl.1,fun x hx=>?_⟩
     rcases zb9 hx with rfl|hx
     ·trivial
     ·exact hbl.2 x hx
    ·exact(h.hp.blk i o ho).ex he Mo.refl (fun _ _=>rfl) (fun _ _ _=>rfl)
   ·rw[List.getElem?_append_right (by rw[hlen1];exact hil),hlen1] at ho
    cases hq:i - H.length with
    | succ n=>rw[hq] at ho;simp at ho
    | zero=>
     rw[hq] at ho
     simp only[List.getElem?_cons_zero,Option.some.injEq] at ho
     subst ho
     rw[hat,if_pos (by omega)]
     cases e with
     | out=>exact absurd rfl hne
     | bx v row=>
      obtain⟨B,t,rfl,h1,h2⟩:=hok
      refine⟨B,t,rfl, ?_,fun x hx=>?_⟩
      ·rw[h1,List.map_map];rfl
      ·obtain⟨u,hu,rfl⟩:=List.mem_map.1 hx
       exact⟨.c (h2 u hu).1,(h2 u hu).2⟩
     | ar v n c et sz cap rows=>
      rcases hok with⟨rfl,_,_,h3,h4⟩|⟨B,cs,rfl,h1,h2,h3,h4,h5,h6,h7,h8⟩
      ·exact .inl ⟨rfl,h3,h4⟩
      ·exact .inr ⟨B,cs,rfl,h3,h4,h5,h6,h7,h8⟩
  ·obtain⟨g1,g2,g3⟩:=h.hp.pl.ps _ _ _ (hin _ _ _ h1).1
   refine⟨g1,fun q hq=>?_,g3⟩
   rcases hsrc q B hq with⟨_,e2⟩|⟨_,_,e3⟩
   ·exact g2 _ e2
   ·obtain⟨e4,e5⟩:=h.hp.pl.pd _ _ _ _ _ (hin _ _ _ h1).1 e3
    exact(hin _ _ _ h1).2 ⟨e4,e5⟩
  ·rcases hsrc i B hi with⟨_,e2⟩|⟨_,_,e3⟩
   ·exact h.nw _ _ e2
   ·exact .inl (h.pw _ _ _ e3)
 refine⟨e.blk,hR, ?_, ?_⟩
 ·have hb:atB (ρ++[e.blk]) H.length=e.blk:=by rw[hat,if_pos rfl]
  cases e with
  | out=>exact absurd rfl hne
  | bx v row=>
   obtain⟨B,t,rfl,h1,h2⟩:=hok
   simp only[PE.av,AV.den,hb,PE.val]
   simp[PE.blk]
  | ar v n c et sz cap rows=>
   rcases hok with⟨rfl,rfl,rfl,h3,h4⟩|⟨B,cs,rfl,h1,h2,h3,h4,h5,h6,h7,h8⟩
   ·simp only[PE.av,AV.den,hb,PE.val]
    simp[PE.blk]
   ·simp only[PE.av,AV.den,hb,PE.val]
    simp[PE.blk]
 ·have hb:atB (ρ++[e.blk]) H.length=e.blk:=by rw[hat,if_pos rfl]
  have hc:capAt (H1++[e.ob]) H.length=e.ob.cap:=by unfold capAt;rw[List.getElem?_append_right (by rw[hlen1];exact Nat.le_refl _),hlen1];simp
  cases e with
  | out=>exact absurd rfl hne
  | bx v row=>
   obtain⟨B,t,rfl,h1,h2⟩:=hok
   exact .p (by simp) (by rw[hb];rfl)
  | ar v n c et sz cap rows=>
   rcases hok with⟨rfl,rfl,rfl,h3,h4⟩|⟨B,cs,rfl,h1,h2,h3,h4,h5,h6,h7,h8⟩
   ·exact .o (by simp) (Nat.le_refl _) (by simp) (fun _=>⟨rfl,rfl⟩)
   ·exact .o (by simp) h1 (by rw[hc];simpa [PE.ob,OB.cap] using h2) (fun h=>by rw[hb] at h;cases h)
theorem R.eqv {x:AV} (hR:R N E S ρ F H a w) (h2:WF w S ρ H x):R N E S (ρ++[none]) F (H++[.eqv x (x.den ρ H)]) a w:=by
 have he:=Ex.snoc (ρ:=ρ) (H:=H) hR.hp.len none (.eqv x (x.den ρ H))
 have hin:∀i k B,inP (H++[.eqv x (x.den ρ H)]) i k B→inP H i k B:=fun i k B=>zr3 (fun k B h=>by obtain⟨l,h⟩:=zp1 h;cases h)
 refine hR.ex he Mo.refl ⟨by simp[hR.hp.len],fun j j' B hj hj'=>?_,fun j B hj=>?_,fun j B hj=>?_,hR.hp.sS,fun j o ho=>?_,hR.hp.pl.mono hin (fun _ h=>.inl h) (fun j B hj=>?_) (Nat.le_refl _)⟩ hR.st (fun j B hj=>?_) hR.nS (fun i k B h=>hR.pw i k B (hin i k B h))
 ·rw[zr] at hj hj'
  split at hj
  ·cases hj
  ·split at hj'
   ·cases hj'
   ·exact hR.hp.nd j j' B hj hj'
 ·rw[zr] at hj
  split at hj
  ·cases hj
  ·exact hR.hp.ap j B hj
 ·rw[zr] at hj
  split at hj
  ·cases hj
  ·exact hR.hp.lt j B hj
 ·rcases Nat.lt_or_ge j H.length with hlt|hge
  ·rw[List.getElem?_append_left hlt] at ho
   rw[zr,if_neg (by rw[hR.hp.len];omega)]
   exact(hR.hp.blk j o ho).ex he Mo.refl (fun _ _=>rfl) (fun _ _ _=>rfl)
  ·rw[List.getElem?_append_right hge] at ho
   cases hq:j - H.length with
   | zero=>
    rw[hq] at ho
    simp only[List.getElem?_cons_zero,Option.some.injEq] at ho
    subst ho
    exact⟨h2.den_ex he,h2.ex he Mo.refl⟩
   | succ n=>rw[hq] at ho;simp at ho
 ·rw[zr] at hj
  split at hj
  ·cases hj
  ·exact .inl ⟨j,hj⟩
 ·rw[zr] at hj
  split at hj
  ·cases hj
  ·exact hR.nw j B hj
theorem R.putp {b p k:Nat} {l l':List PE} {e:PE} (h:R N E S ρ F H a w) (hb:H[b]?=some e.ob) (hne:e≠.out) (hp:H[p]?=some (.pool l)) (hq:(e.av b).den ρ H=e.val) (hw:WF w S ρ H (e.av b)) (hl1:∀x∈l',x=e∨x∈l) (hl2:∀j x,l'[j]?=some x→(j=k∧x=e)∨l[j]?=some x) (hlb:E.H0.length≤b) :
    R N E S (ρ.set b none) (killF (AV.den ρ H) [b] F) (((H.map (killO (AV.den ρ H) [b])).set b .dead).set p (.pool l')) a w:=by
 have hpl:p < H.length:=(List.getElem?_eq_some_iff.1 hp).1
 have hbl:b < H.length:=(List.getElem?_eq_some_iff.1 hb).1
 have hpb:p≠b:=fun e'=>by subst e';rw[hb] at hp;injection hp with hp;cases e <;> cases hp
 have hpool:=h.hp.blk p _ hp
 have hbok:=h.hp.blk b _ hb
 let H1:=(H.map (killO (AV.den ρ H) [b])).set b .dead
 have he:ExB [b] ρ H (ρ.set b none) (H1.set p (.pool l')):=by
  have hH:∀i,i < H.length→i≠b→∃o',(H1.set p (.pool l'))[i]?=some o'∧∃o,H[i]?=some o∧o'.sz=o.sz∧o'.cap=o.cap:=fun i hi hib=>by
   rw[List.getElem?_set]
   split
   ·rename_i hpi;subst hpi;rw[if_pos (by simpa [H1] using hi)];exact⟨_,rfl,_,hp,rfl,rfl⟩
   ·rw[List.getElem?_set_ne (Ne.symm hib),List.getElem?_map,List.getElem?_eq_getElem hi];exact⟨_,rfl,_,rfl,zR4 _ _ _,zU3 _ _ _⟩
  refine⟨fun i hi hib=>?_,fun i hi hib=>?_,fun i hi hib=>?_,by simp[H1]⟩
  all_goals replace hib:i≠b:=by simpa using hib
  ·unfold atB;rw[List.getElem?_set_ne (Ne.symm hib)]
  ·obtain⟨o',h1,o,h2,h3,h4⟩:=hH i hi hib;unfold szAt;rw[h1,h2];exact h3
  ·obtain⟨o',h1,o,h2,h3,h4⟩:=hH i hi hib;unfold capAt;rw[h1,h2];exact h4
 have hat:∀i B,atB (ρ.set b none) i=some B→i≠b∧atB ρ i=some B:=fun i B hi=>by
  by_cases hib:i=b
  ·subst hib
   unfold atB at hi
   rw[List.getElem?_set_self (by rw[h.hp.len];exact hbl)] at hi
   cases hi
  ·refine⟨hib, ?_⟩
   unfold atB at hi ⊢
   rw[List.getElem?_set_ne (Ne.symm hib)] at hi
   exact hi
 have heb:e.blk=atB ρ b:=by
  cases e with
  | out=>exact absurd rfl hne
  | bx v row=>
   obtain⟨B,t,h1,_⟩:=hbok
   simp only[PE.av,AV.den,h1,PE.val] at hq
   rw[h1,←hq];rfl
  | ar v n c et sz cap rows=>
   simp only[PE.av,AV.den,PE.val] at hq
   rw[←hq]
   cases hB:atB ρ b <;> rfl
 have heok:PEok w S e:=by
  cases e with
  | out=>trivial
  | bx v row=>
   obtain⟨B,t,h1,h2,h3⟩:=hbok
   simp only[PE.av,AV.den,h1,PE.val] at hq
   refine⟨B,t, ?_, ?_,fun u hu=>?_⟩
   ·rw[←hq];simp
   ·rw[h2,List.map_map];rfl
   ·have:=h3 (.c u) (List.mem_map.2 ⟨u,hu,rfl⟩)
    refine⟨?_,this.2⟩
    cases this.1 with|c g=>exact g
  | ar v n c et sz cap rows=>
   simp only[PE.av,AV.den,PE.val] at hq
   have hcap:capAt H b=cap:=by unfold capAt;rw[hb];rfl
   cases hw with
   | o g0 g1 g2 g3=>
    rcases hbok with⟨h1,h2,h3⟩|⟨B,cs,h1,h2,h3,h4,h5,h6,h7⟩
    ·obtain⟨rfl,rfl⟩:=g3 h1
     refine .inl ⟨?_,rfl,rfl,h2,h3⟩
     rw[←hq,h1];rfl
    ·refine .inr ⟨B,cs, ?_,g1,by omega,h2,h3,h4,h5,h6,h7⟩
     rw[←hq,h1];simp
 have hin:∀i j B,inP (H1.set p (.pool l')) i j B→inP H i j B∨(i=p∧j=k∧atB ρ b=some B):=fun i j B hi=>by
  obtain⟨o,h1,h2⟩:=hi
  rw[List.getElem?_set] at h1
  split at h1
  ·rename_i hpi
   subst hpi
   try rw[if_pos (by simpa [H1] using hpl)] at h1
   injection h1 with h1
   subst h1
   obtain⟨l2,x,h3,h4,h5⟩:=h2
   injection h3 with h3
   subst h3
   rcases hl2 j x h4 with⟨rfl,rfl⟩|h6
   ·exact .inr ⟨rfl,rfl,by rw[←heb];exact h5⟩
   ·exact .inl ⟨_,hp,l,x,rfl,h6,h5⟩
  ·exact .inl (zs6 (zr6 (fun _ _ h=>by obtain⟨l,h⟩:=zp1 h;cases h) ⟨o,h1,h2⟩))
 have hm:Mo w S w S:=Mo.refl
 refine⟨h.df,h.sz,fun i y hy=>?_,⟨by simp[h.hp.len],fun i i' B hi hi'=>h.hp.nd i i' B (hat _ _ hi).2 (hat _ _ hi').2,fun i B hi=>h.hp.ap i B (hat _ _ hi).2,fun i B hi=>h.hp.lt i B (hat _ _ hi).2,h.hp.sS,fun i y hy=>?_,⟨fun i j i' j' B h1 h2=>?_,fun i j B h1=>?_⟩⟩,h.st,fun i B hi=>h.nw i B (hat _ _ hi).2,h.nS,fun i j B hi=>?_,fun i hi=>?_,fun hpp i hi=>?_⟩
 ·obtain⟨y',h1,rfl⟩:=zp2 hy
  obtain⟨h2,h3⟩:=h.fr i y' h1
  obtain⟨h4,h5⟩:=h3.killed he hm
  exact⟨by rw[h4];exact h2,h5⟩
 ·rw[List.getElem?_set] at hy
  split at hy
  ·rename_i hpi
   subst hpi
   try rw[if_pos (by simpa [H1] using hpl)] at hy
   injection hy with hy
   subst hy
   refine⟨?_,fun x hx=>?_⟩
   ·unfold atB;rw[List.getElem?_set_ne (Ne.symm hpb)];exact hpool.1
   ·rcases hl1 x hx with rfl|hx
    ·exact heok
    ·exact hpool.2 x hx
  ·rw[List.getElem?_set] at hy
   split at hy
   ·split at hy
    ·injection hy with hy;subst hy;trivial
    ·cases hy
   ·rename_i hbi
    rw[List.getElem?_map] at hy
    cases hz:H[i]? with
    | none=>rw[hz] at hy;cases hy
    | some ob=>
     rw[hz] at hy
     simp only[Option.map_some,Option.some.injEq] at hy
     subst hy
     have ha:atB (ρ.set b none) i=atB ρ i:=by unfold atB;rw[List.getElem?_set_ne hbi]
     rw[ha]
     exact(h.hp.blk i ob hz).killed he hm (fun _ _=>rfl) (fun _ _ _=>rfl)
 ·rcases hin i j B h1 with g|⟨g1,g2,g3⟩ <;> rcases hin i' j' B h2 with g'|⟨g1',g2',g3'⟩
  ·exact h.hp.pl.pd _ _ _ _ _ g g'
  ·exact absurd g3' ((h.hp.pl.ps _ _ _ g).2.1 b)
  ·exact absurd g3 ((h.hp.pl.ps _ _ _ g').2.1 b)
  ·exact⟨g1.trans g1'.symm,g2.trans g2'.symm⟩
 ·rcases hin i j B h1 with g|⟨g1,g2,g3⟩
  ·obtain⟨q1,q2,q3⟩:=h.hp.pl.ps _ _ _ g
   exact⟨q1,fun q hq=>q2 q (hat _ _ hq).2,q3⟩
  ·exact⟨h.hp.ap b B g3,fun q hq=>(hat _ _ hq).1 (h.hp.nd _ _ _ (hat _ _ hq).2 g3),h.hp.lt b B g3⟩
 ·rcases hin i j B hi with g|⟨g1,g2,g3⟩
  ·exact h.pw _ _ _ g
  ·rcases h.nw b B g3 with g4|⟨g4,_⟩
   ·exact g4
   ·omega
 ·obtain⟨h1,h2⟩:=h.ln i hi
  refine⟨by simpa [H1] using h1,fun o ho hs=>?_⟩
  obtain⟨h3,o',h4,h5⟩:=h2 o ho hs
  have hib:i≠b:=by omega
  refine⟨by unfold atB;rw[List.getElem?_set_ne (Ne.symm hib)];exact h3, ?_⟩
  rw[List.getElem?_set]
  split
  ·rename_i hpi
   subst hpi
   try rw[if_pos (by simpa [H1] using h1)]
   rw[hp] at h4
   injection h4 with h4
   subst h4
   exact⟨_,rfl,h5⟩
  ·exact⟨killO (AV.den ρ H) [b] o',by rw[List.getElem?_set_ne (Ne.symm hib),List.getElem?_map,h4];rfl,by rw[zT3];exact h5⟩
 ·have hib:i≠b:=by omega
  have hil:=(h.ln i hi).1
  obtain⟨h1,h2,h3⟩:=h.pn hpp i hi
  exact⟨by rw[he.at_ i hil (by simpa using hib)];exact h1,by rw[he.sz i hil (by simpa using hib)];exact h2,by rw[he.cap i hil (by simpa using hib)];exact h3⟩
theorem wk_putk {b q p k:Nat} {l:List PE} (e:PE) (hq:H[q]?=some (.eqv (e.av b) e.val)) (hb:H[b]?=some e.ob) (hne:e≠.out) (hp:H[p]?=some (.pool l)) (hlb:∃n,E.H0.length=n∧Nat.ble n b=true)
    (h:∀g,g (e.av b)=e.val→K (killF g [b] F) (((H.map (killO g [b])).set b .dead).set p (.pool (l.set k e)))):Wk N E F H K:=fun S ρ a w hR=>by
 obtain⟨h1,h2⟩:=hR.hp.blk q _ hq
 obtain⟨n,hn,hnb⟩:=hlb
 refine⟨S,_,_,_,h (AV.den ρ H) h1,hR.putp (k:=k) hb hne hp h1 h2 (fun x hx=>zb9 hx) (fun j x hj=>?_) (by have:=Nat.le_of_ble_eq_true hnb;omega)⟩
 rw[List.getElem?_set] at hj
 split at hj
 ·rename_i hjk
  split at hj
  ·injection hj with hj;exact .inl ⟨hjk.symm,hj.symm⟩
  ·cases hj
 ·exact .inr hj
theorem wk_pute {b q p:Nat} {l:List PE} (e:PE) (hq:H[q]?=some (.eqv (e.av b) e.val)) (hb:H[b]?=some e.ob) (hne:e≠.out) (hp:H[p]?=some (.pool l)) (hlb:∃n,E.H0.length=n∧Nat.ble n b=true)
    (h:∀g,g (e.av b)=e.val→K (killF g [b] F) (((H.map (killO g [b])).set b .dead).set p (.pool (l++[e])))):Wk N E F H K:=fun S ρ a w hR=>by
 obtain⟨h1,h2⟩:=hR.hp.blk q _ hq
 obtain⟨n,hn,hnb⟩:=hlb
 refine⟨S,_,_,_,h (AV.den ρ H) h1,hR.putp (k:=l.length) hb hne hp h1 h2 (fun x hx=>?_) (fun j x hj=>?_) (by have:=Nat.le_of_ble_eq_true hnb;omega)⟩
 ·rcases List.mem_append.1 hx with hx|hx
  ·exact .inr hx
  ·exact .inl (List.mem_singleton.1 hx)
 ·rw[List.getElem?_append] at hj
  split at hj
  ·exact .inr hj
  ·rename_i hjl
   rw[List.getElem?_singleton] at hj
   split at hj
   ·injection hj with hj;exact .inl ⟨by omega,hj.symm⟩
   ·cases hj
theorem R.snocN {o:OB} (hR:R N E S ρ F H a w) (ho:OwnB w S (ρ++[none]) (H++[o]) o none) (hnp:∀k B,¬o.hasP k B):R N E S (ρ++[none]) F (H++[o]) a w:=by
 have he:=Ex.snoc (ρ:=ρ) (H:=H) hR.hp.len none o
 have hin:∀i k B,inP (H++[o]) i k B→inP H i k B:=fun i k B=>zr3 hnp
 have hn:∀j B,atB (ρ++[none]) j=some B→atB ρ j=some B:=fun j B hj=>by
  rw[zr] at hj
  split at hj
  ·cases hj
  ·exact hj
 refine hR.ex he Mo.refl ⟨by simp[hR.hp.len],fun j j' B hj hj'=>hR.hp.nd _ _ _ (hn _ _ hj) (hn _ _ hj'),fun j B hj=>hR.hp.ap _ _ (hn _ _ hj),fun j B hj=>hR.hp.lt _ _ (hn _ _ hj),hR.hp.sS,fun j o' ho'=>?_,hR.hp.pl.mono hin (fun _ h=>.inl h) (fun j B hj=>.inl ⟨j,hn _ _ hj⟩) (Nat.le_refl _)⟩ hR.st (fun j B hj=>hR.nw _ _ (hn _ _ hj)) hR.nS (fun i k B h=>hR.pw i k B (hin i k B h))
 rcases Nat.lt_or_ge j H.length with hlt|hge
 ·rw[List.getElem?_append_left hlt] at ho'
  rw[zr,if_neg (by rw[hR.hp.len];omega)]
  exact(hR.hp.blk j o' ho').ex he Mo.refl (fun _ _=>rfl) (fun _ _ _=>rfl)
 ·rw[List.getElem?_append_right hge] at ho'
  cases hq:j - H.length with
  | zero=>
   rw[hq] at ho'
   simp only[List.getElem?_cons_zero,Option.some.injEq] at ho'
   subst ho'
   rw[zr,if_pos (by rw[hR.hp.len];omega)]
   exact ho
  | succ n=>rw[hq] at ho';simp at ho'
theorem wk_bind {K1:Fm→List OB→Prop} (h:Wk N E F H K1) (hk:∀F H,K1 F H→Wk N E F H K):Wk N E F H K:=fun S ρ a w hR=>by
 obtain⟨S1,ρ1,F1,H1,h1,hR1⟩:=h S ρ a w hR
 exact hk F1 H1 h1 S1 ρ1 a w hR1
theorem wk_pool0 (h:K F (H++[.pool []])):Wk N E F H K:=fun S ρ a w hR=>by
 have he:=Ex.snoc (ρ:=ρ) (H:=H) hR.hp.len none (.pool [])
 have hin:∀i k B,inP (H++[.pool []]) i k B→inP H i k B:=fun i k B=>zr3 (fun k B ⟨l,e,h1,h2,_⟩=>by injection h1 with h1;subst h1;simp at h2)
 have hn:∀j B,atB (ρ++[none]) j=some B→atB ρ j=some B:=fun j B hj=>by
  rw[zr] at hj
  split at hj
  ·cases hj
  ·exact hj
 refine⟨S,ρ++[none],_,_,h,hR.ex he Mo.refl ⟨by simp[hR.hp.len],fun j j' B hj hj'=>hR.hp.nd _ _ _ (hn _ _ hj) (hn _ _ hj'),fun j B hj=>hR.hp.ap _ _ (hn _ _ hj),fun j B hj=>hR.hp.lt _ _ (hn _ _ hj),hR.hp.sS,fun j o ho=>?_,hR.hp.pl.mono hin (fun _ h=>.inl h) (fun j B hj=>.inl ⟨j,hn _ _ hj⟩) (Nat.le_refl _)⟩ hR.st (fun j B hj=>hR.nw _ _ (hn _ _ hj)) hR.nS (fun i k B h=>hR.pw i k B (hin i k B h))⟩
 rcases Nat.lt_or_ge j H.length with hlt|hge
 ·rw[List.getElem?_append_left hlt] at ho
  rw[zr,if_neg (by rw[hR.hp.len];omega)]
  exact(hR.hp.blk j o ho).ex he Mo.refl (fun _ _=>rfl) (fun _ _ _=>rfl)
 ·rw[List.getElem?_append_right hge] at ho
  cases hq:j - H.length with
  | zero=>
   rw[hq] at ho
   simp only[List.getElem?_cons_zero,Option.some.injEq] at ho
   subst ho
   refine⟨?_,fun e he=>by cases he⟩
   rw[zr,if_pos (by rw[hR.hp.len];omega)]
  | succ n=>rw[hq] at ho;simp at ho
end
end Go.Proofs.YtophoepbedlhjaaGreatDoor
namespace Go.Proofs.YtophoepbedlhjaaGreatDoor
end Go.Proofs.YtophoepbedlhjaaGreatDoor
namespace Go.Proofs.YtophoepbedlhjaaGreatDoor
structure Grd where
 st:Int
 x:Int
 y:Int
 w:Nat
 h:Nat
 on:List Bool
end Go.Proofs.YtophoepbedlhjaaGreatDoor
-- NEWM
namespace Go.Proofs.YtophoepbedlhjaaGreatDoor
open Go Go.RowKit
set_option maxRecDepth 100000
structure GOk (g:Grd):Prop where
 len:g.on.length=g.w*g.h
 w:g.w≤1000
 h:g.h≤1000
 x:-10000000≤g.x∧g.x≤10000000
 y:-10000000≤g.y∧g.y≤10000000
theorem GOk.n {g:Grd} (h:GOk g):g.on.length≤1000000:=by
 rw[h.len]
 exact Nat.le_trans (Nat.mul_le_mul h.w h.h) (by decide)
theorem aret_p {fn:Func} {nl q b k j b':Nat} {F:Fm} {H:List OB} {Qr:AV→List OB→Prop} (m:List (Option Nat)) (H':(AV→Value)→List OB) (hr:fn.results=#[.tmp q]) (h:F.lookup q=some (.p b k j)) (hb:m[b']?=some (some b)) (hm:(m.filterMap id).Nodup) (hl:∀i,i < nl→m[i]?=some (some i)) (hH:∀g,CvH g m H true m (H' g)) (hq:∀g,Qr (.p b' k j) (H' g)):ARet Tryz.prog fn nl Qr .ret F H:=
 zI m (fun _=>.p b' k j) H' (by rw[hr];exact .tmp h .nil) hm hl (fun _=>.p hb) hH hq
end Go.Proofs.YtophoepbedlhjaaGreatDoor
-- NEWM
namespace Go.Proofs.YtophoepbedlhjaaGreatDoor
open Go Go.RowKit
set_option maxRecDepth 100000
end Go.Proofs.YtophoepbedlhjaaGreatDoor
-- NEWM
namespace Go.Proofs.YtophoepbedlhjaaGreatDoor
open Go Go.RowKit
set_option maxRecDepth 100000
section
variable {P:Program} {N:Nat} {E:Env} {F:Fm} {H:List OB} {o:Oper} {S:Nat→Prop} {ρ:List (Option Nat)} {a:Act} {w:World} {t yt:TypeId} {x y:Operand}
end
end Go.Proofs.YtophoepbedlhjaaGreatDoor
