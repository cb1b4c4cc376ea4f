/- slices.Compact of numbers, by value. -/
import Derived.Test.YtophoepbedlhjaaGreatDoorQbg
import Derived.Test.YtophoepbedlhjaaGreatDoorQaw
import Derived.Test.YtophoepbedlhjaaGreatDoorQap
import Derived.Test.YtophoepbedlhjaaGreatDoorQas
set_option linter.unusedSimpArgs false
set_option linter.unusedVariables false
-- NEWM
namespace Go.Proofs.YtophoepbedlhjaaGreatDoor
open Go Go.RowKit
set_option maxRecDepth 100000
def gcdI (a b:Int):Nat:=Nat.gcd a.toNat b.toNat
abbrev lowR (a b:Int):List CV:=[I (a / gcdI a b),I (b / gcdI a b)]
theorem gcd_next (a b:Nat):Nat.gcd b (a % b)=Nat.gcd a b:=by
 rw[Nat.gcd_comm a b,Nat.gcd_rec b a,Nat.gcd_comm]
theorem low1_a (num den:Int) (h0:0≤num) (h1:num≤9223372036854775807) (h2:1≤den) (h3:den≤9223372036854775807):ACalls Tryz.prog 57 [.c (I num),.c (I den)] [] fun u H=>u = .a ((lowR num den).map .c)∧H = []:=by
 obtain⟨p,rfl⟩:=Int.eq_ofNat_of_zero_le h0
 obtain⟨q,rfl⟩:=Int.eq_ofNat_of_zero_le (Int.le_trans (by decide) h2)
 refine zb (N:=22) Tryz.func57 rfl rfl (by simp) fun E hE=>?_
 refine WA ?_
 refine WA ?_
 refine zm (fun m F H=>∃(a:Nat),a≤9223372036854775807∧m≤9223372036854775807∧Nat.gcd a m=Nat.gcd p q∧F = [(0,.c (I p)),(1,.c (I q)),(4,.p 0 0 0),(5,.c (I a)),(6,.c (I m))]∧H = [.box [.c (I 0),.c (I 0)]]) ?_ ?_
 ·refine zf1 [some 0] (fun _=>[(0,.c (I p)),(1,.c (I q)),(4,.p 0 0 0),(5,.c (I p)),(6,.c (I q))]) (fun _=>_) (by decide) (ZNL hE) ZCF ZCH (fun _=>?_)
  exact⟨q,p,by omega,by omega,rfl,rfl,rfl⟩
 rintro m F H ⟨a,ha,hb,hg,rfl,rfl⟩
 refine WA ?_
 refine zl rfl (fun hne=>?_) (fun he=>?_)
 ·have hlt:=Nat.mod_lt a (show 0 < m by omega)
  refine ZZ ?_
  refine zc [(0,none),(1,none),(2,none),(3,none),(4,none),(5,none)] zo (by kernel_rfl) ?_
  refine WQ ?_
  refine zf1 [some 0] (fun _=>[(0,.c (I p)),(1,.c (I q)),(4,.p 0 0 0),(5,.c (I m)),(6,.c (I (a % m:Nat)))]) (fun _=>_) (by decide) (ZNL hE) ZCF ZCH (fun _=>?_)
  exact⟨a % m,hlt,m,by omega,by omega,by rw[gcd_next];exact hg,rfl,rfl⟩
 obtain rfl:m=0:=by omega
 rw[Nat.gcd_zero_right] at hg
 have hg1:0 < a:=by rw[hg];exact Nat.gcd_pos_of_pos_right _ (by omega)
 refine ZZ ?_
 refine zc [(0,none),(1,none),(2,none),(3,none),(4,none),(5,none),(6,none),(7,some [])] zo (by kernel_rfl) ?_
 refine WQ ?_
 refine zn1 [] [] rfl (KK (t:=43) rfl) rfl (Cells.box rfl) (by simp) (by(try simp only[nm,putL,Nat.reduceAdd,cellsOf,cvOf]) <;> rfl) (by decide) (ZNK rfl) (fun _=>C0 rfl) (fun _=>.nil) ⟨?_,rfl⟩
 rw[hg];rfl
def pacF (l:List Nt) (s:List UInt8) (at_:Int):Int × Int × Bool:=if jobE l s at_≠0 then (0,0,false) else match (nmI (bksF l (cntP at_ l)).1.js s).bind fun k=>(bksF l (cntP at_ l)).1.js[k]? with
 | some j=>if (j.ly.length:Int)=0 then (0,0,false) else ((j.ly.getLast?.getD 0 - j.beg) / gcdI (j.ly.getLast?.getD 0 - j.beg) j.ly.length,(j.ly.length:Int) / gcdI (j.ly.getLast?.getD 0 - j.beg) j.ly.length,true)
 | none=>(0,0,false)
theorem jobE_ask {l:List Nt} {s:List UInt8} {at_:Int} (h:jobE l s at_=0):askF l at_=0:=by
 unfold jobE at h
 split at h
 ·rename_i h1;exact absurd h h1
 ·rename_i h1;exact Decidable.not_not.1 h1
theorem pace_v (v:Value) (l:List Nt) (at_:Int) (hl:l.length≤1000000) (hs:∀x∈l,NtS x) (s:List UInt8) (hsl:s.length≤1000000):ACalls Tryz.prog 11 [.c (.r v (noRs l)),.c (T s),.c (I at_)] [] fun u H=>u = .t [.a [.c (I (pacF l s at_).1),.c (I (pacF l s at_).2.1)],.c (B (pacF l s at_).2.2),.c (I (jobE l s at_))]∧H = []:=by
 have hjobat:=jobat_v v l at_ hl hs s hsl
 have hpx:PoolIx 1:=⟨trivial⟩
 refine zb (N:=43) Tryz.func11 rfl rfl (by simp) fun E hE=>?_
 refine WA ?_
 refine WR ?_
 refine zf rfl (efk (c:=fun _=>hjobat)) ?_
 rintro _ _ ⟨_,_,_,(⟨he,rfl,rfl⟩|⟨he,k,b0,j,pl,hnk,hj,hB,hin,rfl,rfl⟩),hF,hH⟩
 all_goals ((refine NST hF hH ?_;clear hF hH;rintro rfl rfl))
 all_goals (refine WE ?_)
 ·have hp:pacF l s at_=(0,0,false):=by unfold pacF;rw[if_pos he]
  rw[hp]
  generalize jobE l s at_=e at he ⊢
  refine WA ?_
  refine zd rfl ?_
  refine WA ?_
  exact zI (us:=[.a [.c (I 0),.c (I 0)],.c (B false),.c (I e)]) [] (fun g'=>.t [.a [.c (I 0),.c (I 0)],.c (B false),.c (I e)]) (fun _=>[]) (.cella (n:=2) rfl (by kernel_rfl) (Cells.box rfl) (by simp) (by(try simp only[nm,putL,Nat.reduceAdd,cellsOf,cvOf]) <;> rfl) (.tmp rfl (.tmp rfl .nil))) (by decide) (fun i hi=>absurd hi (Nat.not_lt_zero i)) (fun g'=>.tL (.cons (.aL (.cons (.c rfl) (.cons (.c rfl) .nil))) (.cons (.c rfl) (.cons (.c rfl) .nil)))) (fun _=>.nil) (fun g'=>⟨rfl,rfl⟩)
 ·have hjk:=bksF_jk at_ (zt2 (jobE_ask he))
  obtain⟨t1,t2,t3⟩:=hjk.tim j (List.mem_of_getElem? hj)
  have hp0:pacF l s at_=if (j.ly.length:Int)=0 then (0,0,false) else ((j.ly.getLast?.getD 0 - j.beg) / gcdI (j.ly.getLast?.getD 0 - j.beg) j.ly.length,(j.ly.length:Int) / gcdI (j.ly.getLast?.getD 0 - j.beg) j.ly.length,true):=by unfold pacF;rw[if_neg (by simpa using he),hnk];simp[hj]
  have hall:=hB.js.all j (List.mem_of_getElem? hj)
  rw[hp0,he]
  have hin2:InPool k b0 pl [T (stW j.st),I j.ly.length,I j.all,I j.beg,I (j.ly.getLast?.getD 0),I j.en]:=hin
  by_cases hz:(j.ly.length:Int)=0
  ·rw[if_pos hz]
   refine WA ?_
   refine zd rfl ?_
   refine WA ?_
   exact zI (us:=[.a [.c (I 0),.c (I 0)],.c (B false),.c (I 0)]) [] (fun g'=>.t [.a [.c (I 0),.c (I 0)],.c (B false),.c (I 0)]) (fun _=>[]) (.cella (n:=2) rfl (by kernel_rfl) (Cells.box rfl) (by simp) (by(try simp only[nm,putL,Nat.reduceAdd,cellsOf,cvOf]) <;> rfl) (.tmp rfl (.tmp rfl .nil))) (by decide) (fun i hi=>absurd hi (Nat.not_lt_zero i)) (fun g'=>.tL (.cons (.aL (.cons (.c rfl) (.cons (.c rfl) .nil))) (.cons (.c rfl) (.cons (.c rfl) .nil)))) (fun _=>.nil) (fun g'=>⟨rfl,rfl⟩)
  ·rw[if_neg hz]
   have hlast:j.beg≤j.ly.getLast?.getD 0∧j.ly.getLast?.getD 0≤345686399999:=by
    cases hq:j.ly.getLast? with
    | none=>rw[List.getLast?_eq_none_iff.1 hq] at hz;exact absurd rfl hz
    | some m=>exact t3 m (List.mem_of_getLast? hq)
   generalize j.ly.getLast?.getD 0=la at hlast hin2 ⊢
   have hn1:1≤(j.ly.length:Int):=by omega
   generalize (j.ly.length:Int)=n at hz hall hn1 hin2 ⊢
   refine WA ?_
   refine za rfl ?_
   refine ZZ ?_
   refine zc [(0,none),(1,none),(2,none),(3,none),(4,none),(5,none),(6,none),(7,none),(8,none),(9,none),(10,none),(11,none),(12,none),(13,some []),(14,some []),(15,none),(16,none)] zo (by kernel_rfl) ?_
   refine WP ?_
   refine zY rfl rfl (efk (c:=fun _=>low1_a (la - j.beg) n (by omega) (by omega) (by omega) (by omega))) ?_
   rintro _ _ ⟨_,_,_,⟨rfl,rfl⟩,hF,hH⟩
   (refine NST hF hH ?_;clear hF hH;rintro rfl rfl)
   refine⟨zk, ?_⟩
   refine WQ ?_
   exact zI (us:=[.a [.c (I ((la - j.beg) / gcdI (la - j.beg) n)),.c (I (n / gcdI (la - j.beg) n))],.c (B true),.c (I 0)]) [] (fun g'=>.t [.a [.c (I ((la - j.beg) / gcdI (la - j.beg) n)),.c (I (n / gcdI (la - j.beg) n))],.c (B true),.c (I 0)]) (fun _=>[]) (.cella (n:=2) rfl (by kernel_rfl) (Cells.box rfl) (by simp) (by(try simp only[nm,putL,Nat.reduceAdd,cellsOf,cvOf]) <;> rfl) (.tmp rfl (.tmp rfl .nil))) (by decide) (fun i hi=>absurd hi (Nat.not_lt_zero i)) (fun g'=>.tL (.cons (.aL (.cons (.c rfl) (.cons (.c rfl) .nil))) (.cons (.c rfl) (.cons (.c rfl) .nil)))) (fun _=>.nil) (fun g'=>⟨rfl,rfl⟩)
end Go.Proofs.YtophoepbedlhjaaGreatDoor
namespace Go.Proofs.YtophoepbedlhjaaGreatDoor
open Go Go.RowKit
theorem zA11:∀(l:List Nt) (p:Option Nt),chkA p l=0↔(∀x∈l,ntF x=0)∧l.Pairwise (fun x y=>cmpNt x y < 0)∧∀z,p=some z→∀x∈l,cmpNt z x < 0
 | [],p=>by rw[zo9];simp
 | x :: l,p=>by
  have ih:=zA11 l (some x)
  rw[zZ3]
  by_cases h1:ntF x=0
  ·rw[if_neg (by simpa using h1)]
   by_cases h2:badO p x=true
   ·rw[if_pos h2]
    refine⟨fun h=>(by cases h),fun⟨_,_,h3⟩=>?_⟩
    cases p with
    | none=>cases h2
    | some z=>
     have h4:decide (0≤cmpNt z x)=true:=h2
     have h5:=of_decide_eq_true h4
     have:=h3 z rfl x List.mem_cons_self
     omega
   ·rw[if_neg h2,ih]
    constructor
    ·rintro⟨h3,h4,h5⟩
     have h6:=h5 x rfl
     refine⟨fun y hy=>?_,List.pairwise_cons.2 ⟨h6,h4⟩,fun z hz y hy=>?_⟩
     ·rcases List.mem_cons.1 hy with rfl|hy
      ·exact h1
      ·exact h3 y hy
     ·subst hz
      have h7:cmpNt z x < 0:=by
       have h8:¬decide (0≤cmpNt z x)=true:=h2
       simp at h8
       exact h8
      rcases List.mem_cons.1 hy with rfl|hy
      ·exact h7
      ·exact zl8 h7 (h6 y hy)
    ·rintro⟨h3,h4,h5⟩
     obtain⟨h6,h7⟩:=List.pairwise_cons.1 h4
     exact⟨fun y hy=>h3 y (List.mem_cons_of_mem _ hy),h7,fun z hz y hy=>by injection hz with hz;subst hz;exact h6 y hy⟩
  ·rw[if_pos h1]
   exact⟨fun h=>absurd h h1,fun⟨h3,_⟩=>absurd (h3 x List.mem_cons_self) h1⟩
theorem chkN_pw {l:List Nt}:chkN l=0↔l.length≤2000∧(∀x∈l,ntF x=0)∧l.Pairwise (fun x y=>cmpNt x y < 0)∧(l.map ky).Nodup:=by
 unfold chkN
 by_cases h1:2000 < l.length
 ·rw[if_pos h1];exact⟨fun h=>(by cases h),fun⟨h,_⟩=>by omega⟩
 rw[if_neg h1]
 have h2:=zA11 l none
 by_cases h3:chkA none l=0
 ·rw[if_neg (by simpa using h3)]
  obtain⟨h4,h5,_⟩:=h2.1 h3
  by_cases h6:(l.map ky).Nodup
  ·rw[if_pos h6];exact⟨fun _=>⟨by omega,h4,h5,h6⟩,fun _=>rfl⟩
  ·rw[if_neg h6];exact⟨fun h=>(by cases h),fun⟨_,_,_,h⟩=>absurd h h6⟩
 ·rw[if_pos h3]
  exact⟨fun h=>absurd h h3,fun⟨_,h4,h5,_⟩=>absurd (h2.2 ⟨h4,h5,fun z hz=>(by cases hz)⟩) h3⟩
end Go.Proofs.YtophoepbedlhjaaGreatDoor
namespace Go.Proofs.YtophoepbedlhjaaGreatDoor
open Go Go.RowKit
set_option maxRecDepth 1000000
set_option maxHeartbeats 4000000
def tB (k:Nat):Nt:=⟨[97],1,0,1,[112],[106],[],k,[],0⟩
def tL (i:Nat):Nt:=⟨[97],(i:Int)+2,10*((i:Int)+1),2,[112],[],[],(i:Int)+1,[],0⟩
def tE (k:Nat):Nt:=⟨[97],(k:Int)+2,10*(k:Int)+5,3,[112],[],[],0,[],0⟩
def tN (k m:Nat):List Nt:=tB k :: ((List.range m).map tL++[tE k])
theorem zZ4 (k m:Nat):(tN k m).length=m+2:=by simp[tN]
theorem tN_0 (k m:Nat):(tN k m)[0]?=some (tB k):=rfl
theorem tN_l {k m i:Nat} (h:i < m):(tN k m)[i+1]?=some (tL i):=by
 unfold tN
 rw[List.getElem?_cons_succ,List.getElem?_append_left (by simpa using h)]
 simp[h]
theorem tN_e (k m:Nat):(tN k m)[m+1]?=some (tE k):=by
 unfold tN
 rw[List.getElem?_cons_succ,List.getElem?_append_right (by simp)]
 simp
theorem zq10 {k m:Nat} {x:Nt} (h:x∈tN k m):x=tB k∨(∃i,i < m∧x=tL i)∨x=tE k:=by
 rcases List.mem_cons.1 h with h|h
 ·exact .inl h
 ·rcases List.mem_append.1 h with h|h
  ·obtain⟨i,hi,rfl⟩:=List.mem_map.1 h
   exact .inr (.inl ⟨i,by simpa using hi,rfl⟩)
  ·exact .inr (.inr (by simpa using h))
theorem tk_fl:∀k < 101,k=0∨(ntF (tB k)=0∧ntF (tL k)=0∧ntF (tE k)=0):=by decide +kernel
theorem tk_l0:ntF (tL 0)=0:=by decide +kernel
theorem tN_pw {k m:Nat} (h:m≤k):(tN k m).Pairwise fun x y=>x.at_ < y.at_∧x.no < y.no:=by
 unfold tN
 refine List.pairwise_cons.2 ⟨fun y hy=>?_,List.pairwise_append.2 ⟨?_,List.pairwise_singleton _ _,fun x hx y hy=>?_⟩⟩
 ·rcases List.mem_append.1 hy with hy|hy
  ·obtain⟨i,_,rfl⟩:=List.mem_map.1 hy
   simp only[tB,tL]
   omega
  ·rw[List.mem_singleton] at hy
   subst hy
   simp only[tB,tE]
   omega
 ·refine List.pairwise_map.2 (List.pairwise_lt_range.imp fun {a b} hab=>?_)
  simp only[tL]
  omega
 ·obtain⟨i,hi,rfl⟩:=List.mem_map.1 hx
  rw[List.mem_range] at hi
  rw[List.mem_singleton] at hy
  subst hy
  simp only[tL,tE]
  omega
theorem at_cmp {x y:Nt} (h:x.at_ < y.at_):cmpNt x y < 0:=by
 exact(zD6 x y).2 (.inl h)
theorem zp10 {k m:Nat} (h0:0 < k) (hk:k < 101) (hm:m≤k):chkN (tN k m)=0:=by
 refine chkN_pw.2 ⟨by rw[zZ4];omega,fun x hx=>?_,(tN_pw hm).imp fun h=>at_cmp h.1,List.pairwise_map.2 ((tN_pw hm).imp fun {a b} h e=>?_)⟩
 ·have hf:=(tk_fl k hk).resolve_left (by omega)
  rcases zq10 hx with rfl|⟨i,hi,rfl⟩|rfl
  ·exact hf.1
  ·rcases tk_fl i (by omega) with rfl|h
   ·exact tk_l0
   ·exact h.2.1
  ·exact hf.2.2
 ·have:=congrArg Prod.snd e
  simp only[ky] at this
  omega
theorem zS6:∀k < 101,k=0∨(chkN (tN k k)=0∧chkN (tN k (k - 1))=0):=fun k hk=>by
 rcases Nat.eq_zero_or_pos k with h0|h0
 ·exact .inl h0
 ·exact .inr ⟨zp10 h0 hk (Nat.le_refl _),zp10 h0 hk (by omega)⟩
theorem tk_cU {at_:Int} {s:List UInt8 × Int}:∀{l:List Nt},(∀x∈l,x.kd≠7)→cU at_ s l=false
 | [],_=>rfl
 | y :: l,h=>by
  have ih:=fun s=>tk_cU (at_:=at_) (s:=s) (l:=l) fun x hx=>h x (List.mem_cons_of_mem _ hx)
  have h7:¬(y.kd=7∧(y.of_,y.ot)=s):=fun h7=>h y List.mem_cons_self h7.1
  rw[cU,ih s,decide_eq_false h7]
  split <;> rfl
theorem tN_kd {k m:Nat} {x:Nt} (h:x∈tN k m):x.kd≠7:=by
 rcases zq10 h with rfl|⟨i,_,rfl⟩|rfl <;> simp[tB,tL,tE]
theorem tk_cnt {k m:Nat} {at_:Int} (hc:chkN (tN k m)=0):cntP at_ (tN k m)=((List.range (m+2)).filter fun i=>decide (∃x,(tN k m)[i]?=some x∧x.at_≤at_)).map fun i:Nat=>(i:Int):=by
 rw[zw4 hc,zZ4]
 congr 1
 refine List.filter_congr fun i hi=>?_
 rw[List.mem_range] at hi
 have hx:(tN k m)[i]?=some ((tN k m)[i]'(by rw[zZ4];exact hi)):=List.getElem?_eq_getElem _
 rw[List.drop_eq_getElem_cons (by rw[zZ4];exact hi),cR,tk_cU fun x hx=>tN_kd (List.mem_of_mem_drop hx),hx]
 simp
theorem zd6 {k m:Nat} {at_:Int} (hc:chkN (tN k m)=0) (h1:10*(m:Int)≤at_) (h0:10*(k:Int)+5≤at_):cntP at_ (tN k m)=(List.range (m+2)).map fun i:Nat=>(i:Int):=by
 rw[tk_cnt hc,List.filter_eq_self.2]
 intro i hi
 rw[List.mem_range] at hi
 have hx:(tN k m)[i]?=some ((tN k m)[i]'(by rw[zZ4];exact hi)):=List.getElem?_eq_getElem _
 refine decide_eq_true ⟨_,hx, ?_⟩
 rcases zq10 (List.mem_of_getElem? hx) with h|⟨j,hj,h⟩|h <;> rw[h] <;> simp only[tB,tL,tE] <;> omega
theorem tk_cnt2 {k:Nat} (hc:chkN (tN k k)=0):cntP (10*(k:Int)+4) (tN k k)=(List.range (k+1)).map fun i:Nat=>(i:Int):=by
 rw[tk_cnt hc,List.range_succ,List.filter_append,List.filter_eq_self.2,List.filter_eq_nil_iff.2,List.append_nil]
 ·intro i hi
  rw[List.mem_singleton] at hi
  subst hi
  simp only[decide_eq_true_eq,not_exists,not_and]
  intro x hx
  rw[tN_e] at hx
  injection hx with hx
  rw[←hx]
  simp only[tE]
  omega
 ·intro i hi
  rw[List.mem_range] at hi
  refine decide_eq_true ?_
  cases i with
  | zero=>exact⟨_,tN_0 k k,by simp only[tB];omega⟩
  | succ i=>exact⟨_,tN_l (k:=k) (show i < k by omega),by simp only[tL];omega⟩
def tS (k m:Nat):Bk:=⟨[⟨[106],[112],0,(List.range m).map fun i:Nat=>10*((i:Int)+1),k,0,0⟩],[],0,[],0,[],0⟩
theorem zT6 (k m:Nat):runI (tS k m).js [112]=some 0:=rfl
theorem tk_lay {k m:Nat} (h:m < k) (i:Int):bkStep (tS k m,[],[]) i (tL m)=(tS k (m+1),[],[]):=by
 have hr:rfE (tS k m) (tL m)=0:=by
  unfold rfE
  have e:(tL m).pr = [112]:=rfl
  have e1:(tL m).kd=2:=rfl
  have e2:(tL m).n=(m:Int)+1:=rfl
  rw[e,e1,e2,if_neg (by omega),if_pos rfl]
  unfold runJ
  rw[zT6]
  have:¬((k:Int) < (m:Int)+1):=by omega
  simp[tS,this]
 unfold bkStep
 rw[if_neg (by rw[hr];simp)]
 have:ntS (tS k m) (tL m)=tS k (m+1):=by
  unfold ntS
  have e:(tL m).pr = [112]:=rfl
  have e1:(tL m).kd=2:=rfl
  rw[e,e1,if_neg (by omega),if_pos rfl]
  unfold layJ
  rw[zT6]
  simp[tS,tL,List.range_succ,List.modify]
 rw[this]
theorem tk_end (k:Nat) (i:Int):bkStep (tS k k,[],[]) i (tE k)=(⟨[⟨[106],[112],1,(List.range k).map fun i:Nat=>10*((i:Int)+1),k,0,10*(k:Int)+5⟩],[],0,[],0,[],0⟩,[],[]):=by
 have e:(tE k).pr = [112]:=rfl
 have e1:(tE k).kd=3:=rfl
 have hr:rfE (tS k k) (tE k)=0:=by
  unfold rfE
  rw[e,e1,if_neg (by omega),if_neg (by omega),if_pos rfl]
  unfold runJ
  rw[zT6]
  simp[tS]
 unfold bkStep
 rw[if_neg (by rw[hr];simp)]
 unfold ntS
 rw[e,e1,if_neg (by omega),if_neg (by omega),if_pos rfl]
 unfold stopJ
 rw[zT6]
 simp[tS,tE,List.modify]
theorem tk_no {k m:Nat} (h:m < k) (i:Int):bkStep (tS k m,[],[]) i (tE k)=(tS k m,[i],[11]):=by
 have e:(tE k).pr = [112]:=rfl
 have e1:(tE k).kd=3:=rfl
 have hr:rfE (tS k m) (tE k)=11:=by
  unfold rfE
  rw[e,e1,if_neg (by omega),if_neg (by omega),if_pos rfl]
  unfold runJ
  rw[zT6]
  simp[tS,h]
 unfold bkStep
 rw[hr]
 rfl
theorem tk_ix {n i:Nat} (h:i < n):((List.range n).map fun i:Nat=>(i:Int))[i]?=some (i:Int):=by simp[h]
theorem tk_go {k m n:Nat} (hm:m≤k) (hn:m < n):∀q,q≤m→bkK (tN k m) ((List.range n).map fun i:Nat=>(i:Int)) (q+1)=(tS k q,[],[])
 | 0,_=>by
  rw[zb4 (tk_ix (by omega)) (tN_0 k m)]
  rfl
 | q+1,hq=>by
  rw[zb4 (tk_ix (by omega)) (tN_l (k:=k) (show q < m by omega)),tk_go hm hn q (by omega)]
  exact tk_lay (by omega) _
def tJ (l:List Nt) (at_:Int):List (List UInt8 × Int × Nat × Int × Int):=(bksF l (cntP at_ l)).1.js.map fun j=>(j.nm,j.st,j.ly.length,j.ly.getLast?.getD 0,j.beg)
theorem zn10 {k:Nat} (h:0 < k):((List.range k).map fun i:Nat=>10*((i:Int)+1)).getLast?.getD 0=10*(k:Int):=by
 obtain⟨m,rfl⟩:∃m,k=m+1:=⟨k - 1,by omega⟩
 rw[List.range_succ,List.map_append]
 simp
theorem zo10:∀k < 101,k=0∨tJ (tN k k) (10*(k:Int)+5) = [([106],1,k,10*(k:Int),0)]:=fun k h=>by
 rcases Nat.eq_zero_or_pos k with h0|h0
 ·exact .inl h0
 have hc:=((zS6 k h).resolve_left (by omega)).1
 refine .inr ?_
 unfold tJ bksF
 rw[zd6 hc (by omega) (by omega),List.length_map,List.length_range,zb4 (tk_ix (by omega)) (tN_e k k),tk_go (Nat.le_refl _) (by omega) k (Nat.le_refl _),tk_end]
 simp only[List.map_cons,List.map_nil,zn10 h0]
 simp
theorem tk_runs:∀k < 101,k=0∨tJ (tN k k) (10*(k:Int)+4) = [([106],0,k,10*(k:Int),0)]:=fun k h=>by
 rcases Nat.eq_zero_or_pos k with h0|h0
 ·exact .inl h0
 have hc:=((zS6 k h).resolve_left (by omega)).1
 refine .inr ?_
 unfold tJ bksF
 rw[tk_cnt2 hc,List.length_map,List.length_range,tk_go (Nat.le_refl _) (by omega) k (Nat.le_refl _)]
 simp only[tS,List.map_cons,List.map_nil,zn10 h0]
 simp
theorem tk_all:∀k < 101,k=0∨cntP 100000 (tN k k)=cntP (10*(k:Int)+5) (tN k k):=fun k h=>by
 rcases Nat.eq_zero_or_pos k with h0|h0
 ·exact .inl h0
 have hc:=((zS6 k h).resolve_left (by omega)).1
 exact .inr (by rw[zd6 hc (by omega) (by omega),zd6 hc (by omega) (by omega)])
theorem tk_ref:∀k < 101,k=0∨(bksF (tN k (k - 1)) (cntP 100000 (tN k (k - 1)))).2.1.length=1:=fun k h=>by
 rcases Nat.eq_zero_or_pos k with h0|h0
 ·exact .inl h0
 have hc:=((zS6 k h).resolve_left (by omega)).2
 refine .inr ?_
 unfold bksF
 rw[zd6 hc (by omega) (by omega),List.length_map,List.length_range,zb4 (tk_ix (by omega)) (tN_e k (k - 1)),tk_go (by omega) (by omega) (k - 1) (Nat.le_refl _),tk_no (by omega)]
 rfl
end Go.Proofs.YtophoepbedlhjaaGreatDoor
namespace Go.Proofs.YtophoepbedlhjaaGreatDoor
open Go Go.RowKit
set_option maxRecDepth 1000000
theorem tN_ok (k m:Nat):∀x∈tN k m,NtS x:=by
 intro x hx
 rcases List.mem_cons.1 hx with rfl|hx
 ·constructor <;> simp[tB]
 ·rcases List.mem_append.1 hx with hx|hx
  ·obtain⟨i,-,rfl⟩:=List.mem_map.1 hx
   constructor <;> simp[tL]
  ·rw[List.mem_singleton] at hx;subst hx
   constructor <;> simp[tE]
theorem mo_small {n:Int} (h0:0≤n) (h1:n≤100000):moB n=true:=by
 unfold moB outB
 simp
 omega
theorem zI8 {k:Nat} (h:k < 101) (hz:0 < k) {n:Int} (h0:0≤n) (h1:n≤100000):askF (tN k k) n=0∧askF (tN k (k - 1)) n=0:=by
 obtain⟨c1,c2⟩:=(zS6 k h).resolve_left (by omega)
 unfold askF
 rw[c1,c2,mo_small h0 h1]
 exact⟨rfl,rfl⟩
theorem one_of {α β:Type} {f:α→β} {l:List α} {y:β} (h:l.map f = [y]):∃x,l = [x]∧f x=y:=by
 match l,h with
 | [x],h=>exact⟨x,rfl,by simpa using h⟩
theorem tk_st {l:List Nt} {at_ s a b:Int} {k:Nat} (h:tJ l at_ = [([106],s,k,a,b)]):(bksF l (cntP at_ l)).1.js.filterMap stPr = [([106],stW s)]:=by
 obtain⟨j,hj,hj2⟩:=one_of h
 simp only[Prod.mk.injEq] at hj2
 obtain⟨e1,e2,-⟩:=hj2
 rw[hj]
 simp[stPr,e1,e2]
theorem zr10 {l:List (Nat × List UInt8 × List UInt8)} {ck:Nat} {y:Pr} (hm:MapOk l ck) (h:(l.map (·.2)).Perm [y]):srtP l = [y]:=List.perm_singleton.1 ((zs10 hm.nk).trans h)
theorem zg11 {k:Nat} (h:0 < k):(10*(k:Int) - 0) / gcdI (10*(k:Int) - 0) k=10∧(k:Int) / gcdI (10*(k:Int) - 0) k=1:=by
 have e:gcdI (10*(k:Int) - 0) k=k:=by
  unfold gcdI
  rw[show (10*(k:Int) - 0).toNat=10*k by omega,Int.toNat_natCast]
  exact Nat.gcd_eq_right ⟨10,Nat.mul_comm ..⟩
 rw[e]
 constructor
 ·rw[Int.sub_zero];exact Int.mul_ediv_cancel _ (by omega)
 ·exact Int.ediv_self (by omega)
theorem tk_pace {k:Nat} (h:k < 101) (h0:0 < k):jobE (tN k k) [106] 100000=0∧pacF (tN k k) [106] 100000=(10,1,true):=by
 have hd:=(zo10 k h).resolve_left (by omega)
 have hall:=(tk_all k h).resolve_left (by omega)
 obtain⟨j,hj,hj2⟩:=one_of hd
 simp only[Prod.mk.injEq] at hj2
 obtain⟨e1,e2,e3,e4,e5⟩:=hj2
 have ha:=(zI8 h h0 (n:=100000) (by omega) (by omega)).1
 have hn:nmI [j] [106]=some 0:=by unfold nmI fndI;rw[e1];rfl
 have hE:jobE (tN k k) [106] 100000=0:=by
  unfold jobE
  rw[hall,hj,ha,hn]
  rfl
 refine⟨hE, ?_⟩
 unfold pacF
 rw[hE,hall,hj,hn]
 simp only[ne_eq,not_true_eq_false,if_false,Option.bind_some,List.getElem?_cons_zero]
 rw[if_neg (by omega),e3,e4,e5,(zg11 h0).1,(zg11 h0).2]
theorem early_eq {k:Nat} (h:0 < k):(tN k k).take k++[tE k]=tN k (k - 1):=by
 obtain⟨m,rfl⟩:∃m,k=m+1:=⟨k - 1,by omega⟩
 rw[Nat.add_sub_cancel]
 unfold tN
 rw[List.take_succ_cons,List.take_append_of_le_length (by simp),List.cons_append]
 congr 2
 rw[←List.map_take,List.take_range,Nat.min_eq_left (by omega)]
end Go.Proofs.YtophoepbedlhjaaGreatDoor
-- NEWM
namespace Go.Proofs.YtophoepbedlhjaaGreatDoor
open Go Go.RowKit
set_option maxRecDepth 100000
abbrev zR (l:List Int):List (List CV):=l.map fun z=>[I z]
section
variable {P:Program} {N:Nat} {E:Env} {S:Nat→Prop} {ρ:List (Option Nat)} {F:Fm} {H:List OB} {a:Act} {w:World} {Q:Exit→Fm→List OB→Prop}
end
end Go.Proofs.YtophoepbedlhjaaGreatDoor
