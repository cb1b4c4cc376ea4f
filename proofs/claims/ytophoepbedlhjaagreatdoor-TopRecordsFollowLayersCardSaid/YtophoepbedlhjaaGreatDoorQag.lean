/- The logic over values: a state said anew; calls. -/
import Derived.Test.YtophoepbedlhjaaGreatDoorQaf
set_option linter.unusedSimpArgs false
set_option linter.unusedVariables false
namespace Go.Proofs.YtophoepbedlhjaaGreatDoor
open Go Go.RowKit
inductive CvA (m:List (Option Nat)):AV→AV→Prop where
 | c {x y:CV} (h:x=y):CvA m (.c x) (.c y)
 | p {b b' k j:Nat} (h:m[b']?=some (some b)):CvA m (.p b k j) (.p b' k j)
 | o {b b' k n n' c:Nat} (h:m[b']?=some (some b)) (hn:n=n'):CvA m (.o b k n c) (.o b' k n' c)
 | nil {b':Nat} (h:m[b']?=some none):CvA m (.c (.r (.slice none 0 0) [])) (.o b' 0 0 0)
inductive CvAL (m:List (Option Nat)):List AV→List AV→Prop where
 | nil:CvAL m [] []
 | cons {x x':AV} {l l':List AV} (h:CvA m x x') (hl:CvAL m l l'):CvAL m (x :: l) (x' :: l')
inductive CvM (m:List (Option Nat)):OB→OB→Prop where
 | map {es es':List (Nat × Value × CV)} {ck:Nat} (h:es=es'):CvM m (.map es ck) (.map es' ck)
 | itr {b b' s l:Nat} {sn sn':List Nat} (h:m[b']?=some (some b)) (hs:sn=sn'):CvM m (.itr b s sn l) (.itr b' s sn' l)
 | sit {s:ByteArray} {p p':Nat} (h:p=p'):CvM m (.sit s p) (.sit s p')
 | bts {v:Value} {l l':List UInt8} (h:l=l'):CvM m (.bts v l) (.bts v l')
 | dead:CvM m .dead .dead
 | boxt {t:TypeId} {l l':List AV} (h:CvAL m l l'):CvM m (.boxt t l) (.boxt t l')
 | pool {l l':List PE} (h:l=l'):CvM m (.pool l) (.pool l')
theorem CvM.szs {m:List (Option Nat)} {o o':OB} (h:CvM m o o'):o'.sz=o.sz∧o'.cap=o.cap∧o'.shp=o.shp:=by cases h <;> exact⟨rfl,rfl,rfl⟩
inductive Cvt (g:AV→Value) (m:List (Option Nat)) (H:List OB) (fz:Bool):AV→AV→Prop where
 | c {x y:CV} (h:x=y):Cvt g m H fz (.c x) (.c y)
 | p {b b' k j:Nat} (h:m[b']?=some (some b)):Cvt g m H fz (.p b k j) (.p b' k j)
 | o {b b' k n n' c:Nat} (h:m[b']?=some (some b)) (hn:n=n'):Cvt g m H fz (.o b k n c) (.o b' k n' c)
 | nil {b':Nat} (h:m[b']?=some none):Cvt g m H fz (.c (.r (.slice none 0 0) [])) (.o b' 0 0 0)
 | frz {b k n c sz cap:Nat} {e:TypeId} {rows rs:List (List CV)} (hf:fz=true) (h:H[b]?=some (.arr e sz cap rows)) (hr:(rows.drop k).take n=rs) (hn:rs.length=n) (hm:m.contains (some b)=false):Cvt g m H fz (.o b k n c) (.c (.r (g (.o b k n c)) rs))
 | q {v:Value} {k sz j:Nat} {row:List CV}:Cvt g m H fz (.q v k sz row j) (.q v k sz row j)
 | frzp {b:Nat} {l:List AV} {row:List CV} (hf:fz=true) (h:H[b]?=some (.box l)) (hl:l.length=row.length) (hr:∀(i:Nat) (x:AV) (u:CV),l[i]?=some x→row[i]?=some u→Cvt g m H fz x (.c u)) (hm:m.contains (some b)=false):Cvt g m H fz (.p b 0 0) (.c (.p (g (.p b 0 0)) row))
 | frzf {fn:Fn} {l:List AV} {row:List CV} (hl:l.length=row.length) (hr:∀(i:Nat) (x:AV) (u:CV),l[i]?=some x→row[i]?=some u→Cvt g m H fz x (.c u)):Cvt g m H fz (.f fn l) (.c (.f (g (.f fn l)) fn row))
 | unf {v:Value} {fn:Fn} {row:List CV}:Cvt g m H fz (.c (.f v fn row)) (.f fn (row.map .c))
 | mp {b b':Nat} (h:m[b']?=some (some b)):Cvt g m H fz (.mp b) (.mp b')
 | a {l l':List AV} (hl:l.length=l'.length) (h:∀(i:Nat) (x x':AV),l[i]?=some x→l'[i]?=some x'→Cvt g m H fz x x'):Cvt g m H fz (.a l) (.a l')
 | t {l l':List AV} (hl:l.length=l'.length) (h:∀(i:Nat) (x x':AV),l[i]?=some x→l'[i]?=some x'→Cvt g m H fz x x'):Cvt g m H fz (.t l) (.t l')
 | f {fn:Fn} {l l':List AV} (hl:l.length=l'.length) (h:∀(i:Nat) (x x':AV),l[i]?=some x→l'[i]?=some x'→Cvt g m H fz x x'):Cvt g m H fz (.f fn l) (.f fn l')
inductive CvL (g:AV→Value) (m:List (Option Nat)) (H:List OB) (fz:Bool):List AV→List AV→Prop where
 | nil:CvL g m H fz [] []
 | cons {x x':AV} {l l':List AV} (h:Cvt g m H fz x x') (hl:CvL g m H fz l l'):CvL g m H fz (x :: l) (x' :: l')
section
variable {g:AV→Value} {m:List (Option Nat)} {H:List OB} {fz:Bool}
theorem CvA.cvt {x x':AV} (h:CvA m x x'):Cvt g m H fz x x':=by
 cases h with
 | c h=>exact .c h
 | p h=>exact .p h
 | o h hn=>exact .o h hn
 | nil h=>exact .nil h
theorem CvAL.cvl {l l':List AV} (h:CvAL m l l'):CvL g m H fz l l':=by
 induction h with
 | nil=>exact .nil
 | cons h hl ih=>exact .cons h.cvt ih
theorem CvL.both {l l':List AV} (h:CvL g m H fz l l'):l.length=l'.length∧∀(i:Nat) (x x':AV),l[i]?=some x→l'[i]?=some x'→Cvt g m H fz x x':=by
 induction h with
 | nil=>exact⟨rfl,fun i x x' h=>by simp at h⟩
 | cons h hl ih=>
  refine⟨by simp[ih.1],fun i x x' h1 h2=>?_⟩
  cases i with
  | zero=>simp only[List.getElem?_cons_zero,Option.some.injEq] at h1 h2;subst h1;subst h2;exact h
  | succ i=>exact ih.2 i x x' (by simpa using h1) (by simpa using h2)
theorem Cvt.aL {l l':List AV} (h:CvL g m H fz l l'):Cvt g m H fz (.a l) (.a l'):=.a h.both.1 h.both.2
theorem Cvt.tL {l l':List AV} (h:CvL g m H fz l l'):Cvt g m H fz (.t l) (.t l'):=.t h.both.1 h.both.2
theorem Cvt.fL {fn:Fn} {l l':List AV} (h:CvL g m H fz l l'):Cvt g m H fz (.f fn l) (.f fn l'):=.f h.both.1 h.both.2
end
inductive CvF (g:AV→Value) (m:List (Option Nat)) (H:List OB) (fz:Bool) (F:Fm):Fm→Prop where
 | nil:CvF g m H fz F []
 | cons {i:Nat} {x x':AV} {F':Fm} (h:F.lookup i=some x) (hx:Cvt g m H fz x x') (hF:CvF g m H fz F F'):CvF g m H fz F ((i,x') :: F')
inductive CvC (g:AV→Value) (m:List (Option Nat)) (H:List OB) (fz:Bool):CV→CV→Prop where
 | same (u:CV):CvC g m H fz u u
 | frz {q:Nat} {x:AV} {v:Value} {rs:List (List CV)} (hq:H[q]?=some (.eqv x v)) (hx:Cvt g m H fz x (.c (.r (g x) rs))):CvC g m H fz (.s v) (.r v rs)
inductive CvR (g:AV→Value) (m:List (Option Nat)) (H:List OB) (fz:Bool):List CV→List CV→Prop where
 | nil:CvR g m H fz [] []
 | cons {u u':CV} {l l':List CV} (h:CvC g m H fz u u') (hl:CvR g m H fz l l'):CvR g m H fz (u :: l) (u' :: l')
inductive CvRs (g:AV→Value) (m:List (Option Nat)) (H:List OB) (fz:Bool):List (List CV)→List (List CV)→Prop where
 | same (l:List (List CV)):CvRs g m H fz l l
 | last {l:List (List CV)} {r r':List CV} (h:CvR g m H fz r r'):CvRs g m H fz (l++[r]) (l++[r'])
inductive CvH (g:AV→Value) (m:List (Option Nat)) (H:List OB) (fz:Bool):List (Option Nat)→List OB→Prop where
 | nil:CvH g m H fz [] []
 | box {b:Nat} {l l':List AV} {ms:List (Option Nat)} {H':List OB} (h:H[b]?=some (.box l)) (hl:CvL g m H fz l l') (ht:CvH g m H fz ms H'):CvH g m H fz (some b :: ms) (.box l' :: H')
 | arr {b sz cap:Nat} {e:TypeId} {rows rows':List (List CV)} {ms:List (Option Nat)} {H':List OB} (h:H[b]?=some (.arr e sz cap rows)) (hr:rows=rows') (ht:CvH g m H fz ms H'):CvH g m H fz (some b :: ms) (.arr e sz cap rows' :: H')
 | eqv {b:Nat} {x x':AV} {v:Value} {ms:List (Option Nat)} {H':List OB} (h:H[b]?=some (.eqv x v)) (hx:Cvt g m H fz x x') (ht:CvH g m H fz ms H'):CvH g m H fz (some b :: ms) (.eqv x' v :: H')
 | arrz {b sz cap:Nat} {e:TypeId} {rows rows':List (List CV)} {ms:List (Option Nat)} {H':List OB} (h:H[b]?=some (.arr e sz cap rows)) (hr:CvRs g m H fz rows rows') (ht:CvH g m H fz ms H'):CvH g m H fz (some b :: ms) (.arr e sz cap rows' :: H')
 | new {sz:Nat} {e:TypeId} {ms:List (Option Nat)} {H':List OB} (ht:CvH g m H fz ms H'):CvH g m H fz (none :: ms) (.arr e sz 0 [] :: H')
 | oth {b:Nat} {o o':OB} {ms:List (Option Nat)} {H':List OB} (h:H[b]?=some o) (hm:CvM m o o') (ht:CvH g m H fz ms H'):CvH g m H fz (some b :: ms) (o' :: H')
theorem zc1:∀{m:List (Option Nat)},(m.filterMap id).Nodup→∀(i i' b:Nat),m[i]?=some (some b)→m[i']?=some (some b)→i=i'
 | [],_,i,_,b,h,_=>by simp at h
 | x :: m,hd,i,i',b,h,h'=>by
  have hmem:∀(k:Nat),m[k]?=some (some b)→b∈m.filterMap id:=fun k hk=>List.mem_filterMap.2 ⟨some b,List.mem_of_getElem? hk,rfl⟩
  cases x with
  | none=>
   rw[List.filterMap_cons] at hd
   cases i with
   | zero=>simp at h
   | succ i=>
    cases i' with
    | zero=>simp at h'
    | succ i'=>exact congrArg (·+1) (zc1 (by simpa using hd) i i' b (by simpa using h) (by simpa using h'))
  | some y=>
   rw[List.filterMap_cons] at hd
   simp only[id_eq,List.nodup_cons] at hd
   cases i with
   | zero=>
    simp only[List.getElem?_cons_zero,Option.some.injEq] at h
    subst h
    cases i' with
    | zero=>rfl
    | succ i'=>exact absurd (hmem i' (by simpa using h')) hd.1
   | succ i=>
    cases i' with
    | zero=>
     simp only[List.getElem?_cons_zero,Option.some.injEq] at h'
     subst h'
     exact absurd (hmem i (by simpa using h)) hd.1
    | succ i'=>exact congrArg (·+1) (zc1 hd.2 i i' b (by simpa using h) (by simpa using h'))
def reB (ρ:List (Option Nat)) (m:List (Option Nat)):List (Option Nat):=m.map fun x=>match x with|some b=>atB ρ b|none=>none
theorem zK {ρ m:List (Option Nat)} {i:Nat}:atB (reB ρ m) i=match m[i]? with|some (some b)=>atB ρ b|_=>none:=by
 unfold reB
 conv=>lhs;unfold atB
 rw[List.getElem?_map]
 cases h:m[i]? with
 | none=>rfl
 | some x=>cases x <;> rfl
def frozenB (m ρ:List (Option Nat)) (B:Nat):Prop:=∃b,atB ρ b=some B∧m.contains (some b)=false
def newS (fz:Bool) (m ρ:List (Option Nat)) (_:List OB) (S:Nat→Prop) (B:Nat):Prop:=S B∨(fz=true∧frozenB m ρ B)
section
variable {g:AV→Value} {m:List (Option Nat)} {H H':List OB} {fz:Bool} {w:World} {S:Nat→Prop} {ρ:List (Option Nat)} {x x':AV}
theorem CvH.spec {ms:List (Option Nat)} {Hs:List OB} (h:CvH g m H fz ms Hs):ms.length=Hs.length∧∀(i:Nat) (o':OB),Hs[i]?=some o'→(∃b l l',ms[i]?=some (some b)∧H[b]?=some (.box l)∧o' = .box l'∧CvL g m H fz l l') ∨
    (∃b e sz cap rows,ms[i]?=some (some b)∧H[b]?=some (.arr e sz cap rows)∧o' = .arr e sz cap rows)∨(∃e sz,ms[i]?=some none∧o' = .arr e sz 0 [])∨(∃b x x' v,ms[i]?=some (some b)∧H[b]?=some (.eqv x v)∧o' = .eqv x' v∧Cvt g m H fz x x') ∨
    (∃b e sz cap rows rows',ms[i]?=some (some b)∧H[b]?=some (.arr e sz cap rows)∧o' = .arr e sz cap rows'∧CvRs g m H fz rows rows')∨(∃b o,ms[i]?=some (some b)∧H[b]?=some o∧CvM m o o'):=by
 induction h with
 | nil=>exact⟨rfl,fun i o' h=>by simp at h⟩
 | @box b l l' ms H' h hl ht ih=>
  refine⟨by simp[ih.1],fun i o' ho=>?_⟩
  cases i with
  | zero=>simp only[List.getElem?_cons_zero,Option.some.injEq] at ho;subst ho;exact .inl ⟨b,l,l',rfl,h,rfl,hl⟩
  | succ i=>simpa using ih.2 i o' (by simpa using ho)
 | @arr b sz cap e rows rows' ms H' h hr ht ih=>
  subst hr
  refine⟨by simp[ih.1],fun i o' ho=>?_⟩
  cases i with
  | zero=>simp only[List.getElem?_cons_zero,Option.some.injEq] at ho;subst ho;exact .inr (.inl ⟨b,e,sz,cap,rows,rfl,h,rfl⟩)
  | succ i=>simpa using ih.2 i o' (by simpa using ho)
 | @new sz e ms H' ht ih=>
  refine⟨by simp[ih.1],fun i o' ho=>?_⟩
  cases i with
  | zero=>simp only[List.getElem?_cons_zero,Option.some.injEq] at ho;subst ho;exact .inr (.inr (.inl ⟨e,sz,rfl,rfl⟩))
  | succ i=>simpa using ih.2 i o' (by simpa using ho)
 | @eqv b x x' v ms H' h hx ht ih=>
  refine⟨by simp[ih.1],fun i o' ho=>?_⟩
  cases i with
  | zero=>simp only[List.getElem?_cons_zero,Option.some.injEq] at ho;subst ho;exact .inr (.inr (.inr (.inl ⟨b,x,x',v,rfl,h,rfl,hx⟩)))
  | succ i=>simpa using ih.2 i o' (by simpa using ho)
 | @arrz b sz cap e rows rows' ms H' h hr ht ih=>
  refine⟨by simp[ih.1],fun i o' ho=>?_⟩
  cases i with
  | zero=>simp only[List.getElem?_cons_zero,Option.some.injEq] at ho;subst ho;exact .inr (.inr (.inr (.inr (.inl ⟨b,e,sz,cap,rows,rows',rfl,h,rfl,hr⟩))))
  | succ i=>simpa using ih.2 i o' (by simpa using ho)
 | @oth b o o2 ms H' h hm ht ih=>
  refine⟨by simp[ih.1],fun i o' ho=>?_⟩
  cases i with
  | zero=>simp only[List.getElem?_cons_zero,Option.some.injEq] at ho;subst ho;exact .inr (.inr (.inr (.inr (.inr ⟨b,o,rfl,h,hm⟩))))
  | succ i=>simpa using ih.2 i o' (by simpa using ho)
theorem CvH.at_ (h:CvH g m H fz m H') {b' b:Nat} (hb:m[b']?=some (some b)):b' < H'.length∧szAt H' b'=szAt H b∧capAt H' b'=capAt H b:=by
 obtain⟨h1,h2⟩:=h.spec
 have hlt:b' < H'.length:=by rw[←h1];exact(List.getElem?_eq_some_iff.1 hb).1
 refine⟨hlt, ?_⟩
 unfold szAt capAt
 rw[List.getElem?_eq_getElem hlt]
 rcases h2 b' _ (List.getElem?_eq_getElem hlt) with⟨c,l,l',e1,e2,e3,_⟩|⟨c,e,sz,cap,rows,e1,e2,e3⟩|⟨e,sz,e1,e2⟩|⟨c,x,x',v,e1,e2,e3,_⟩|⟨c,e,sz,cap,rows,rows',e1,e2,e3,_⟩|⟨c,o,e1,e2,e3⟩
 ·rw[hb] at e1;injection e1 with e1;injection e1 with e1;subst e1;rw[e2,e3];exact⟨rfl,rfl⟩
 ·rw[hb] at e1;injection e1 with e1;injection e1 with e1;subst e1;rw[e2,e3];exact⟨rfl,rfl⟩
 ·rw[hb] at e1;cases e1
 ·rw[hb] at e1;injection e1 with e1;injection e1 with e1;subst e1;rw[e2,e3];exact⟨rfl,rfl⟩
 ·rw[hb] at e1;injection e1 with e1;injection e1 with e1;subst e1;rw[e2,e3];exact⟨rfl,rfl⟩
 ·rw[hb] at e1;injection e1 with e1;injection e1 with e1;subst e1;rw[e2];exact⟨e3.szs.1,e3.szs.2.1⟩
theorem CvH.shp (h:CvH g m H fz m H') {i b:Nat} {o:OB} (hmi:m[i]?=some (some b)) (ho:H[b]?=some o) (hs:o.shp≠0):∃o',H'[i]?=some o'∧o'.shp=o.shp:=by
 have hlt:=(h.at_ hmi).1
 refine⟨_,List.getElem?_eq_getElem hlt, ?_⟩
 rcases h.spec.2 i _ (List.getElem?_eq_getElem hlt) with⟨c,l,l',e1,e2,e3,_⟩|⟨c,e,sz,cap,rows,e1,e2,e3⟩|⟨e,sz,e1,e2⟩|⟨c,x,x',v,e1,e2,e3,_⟩|⟨c,e,sz,cap,rows,rows',e1,e2,e3,_⟩|⟨c,o2,e1,e2,e3⟩
 ·rw[hmi] at e1;injection e1 with e1;injection e1 with e1;subst e1;rw[ho] at e2;injection e2 with e2;rw[e2,e3];rfl
 ·rw[hmi] at e1;injection e1 with e1;injection e1 with e1;subst e1;rw[ho] at e2;injection e2 with e2;rw[e2,e3]
 ·rw[hmi] at e1;cases e1
 ·rw[hmi] at e1;injection e1 with e1;injection e1 with e1;subst e1;rw[ho] at e2;injection e2 with e2;rw[e2,e3];rfl
 ·rw[hmi] at e1;injection e1 with e1;injection e1 with e1;subst e1;rw[ho] at e2;injection e2 with e2;rw[e2,e3];rfl
 ·rw[hmi] at e1;injection e1 with e1;injection e1 with e1;subst e1;rw[ho] at e2;injection e2 with e2;rw[e2];exact e3.szs.2.2
theorem Cvt.sound (h:Cvt g m H fz x x') (hp:RH w S ρ H) (hg:g=AV.den ρ H) (hH:CvH g m H fz m H') (hw:WF w S ρ H x):x'.den (reB ρ m) H'=x.den ρ H∧WF w (newS fz m ρ H S) (reB ρ m) H' x':=by
 have hmo:Mo w S w (newS fz m ρ H S):=fun b hb=>⟨.inl hb,rfl⟩
 induction h with
 | c h=>subst h;cases hw with|c g=>exact⟨rfl,.c (g.mono hmo)⟩
 | @p b b' k j h=>
  cases hw with
  | p h0 h1=>
   obtain⟨h2,h3,h4⟩:=hH.at_ h
   have ha:atB (reB ρ m) b'=atB ρ b:=by rw[zK,h]
   exact⟨by rw[AV.den,AV.den,ha,h3],.p h2 (by rw[ha];exact h1)⟩
 | @o b b' k n n' c h hn=>
  subst hn
  cases hw with
  | o h0 h1 h5 h6=>
   obtain⟨h2,h3,h4⟩:=hH.at_ h
   have ha:atB (reB ρ m) b'=atB ρ b:=by rw[zK,h]
   exact⟨by rw[AV.den,AV.den,ha,h3],.o h2 h1 (by rw[h4];exact h5) (by rw[ha];exact h6)⟩
 | @nil b' h=>
  have ha:atB (reB ρ m) b'=none:=by rw[zK,h]
  refine⟨by rw[AV.den,AV.den,ha];rfl,.o ?_ (Nat.le_refl _) (Nat.zero_le _) (fun _=>⟨rfl,rfl⟩)⟩
  rw[←hH.spec.1];exact(List.getElem?_eq_some_iff.1 h).1
 | @frz b k n c sz cap e rows rs hf hb hr hn hm=>
  subst hg
  refine⟨rfl,.c ?_⟩
  have hsz:szAt H b=sz:=by unfold szAt;rw[hb];rfl
  cases hw with
  | o h0 h1 h5 h6=>
   rcases hp.blk _ _ hb with⟨hB,hc0,hr0⟩|⟨B,cs,hB,hh,hcs,hmx,hrl,hrow,hcell⟩
   ·obtain⟨rfl,rfl⟩:=h6 hB
    subst hr0
    simp at hr
    subst hr
    rw[AV.den,hB]
    exact .nil _ _
   ·rw[AV.den,hB,hsz]
    have hmem:∀row∈rs,row∈rows:=fun row h=>by rw[←hr] at h;exact List.mem_of_mem_drop (List.mem_of_mem_take h)
    refine .r rs B (k*sz) sz n c hn h1 (.inr ⟨hf,b,hB,hm⟩) (fun row h=>(hrow row (hmem row h)).1) (fun i j row u hi hj=>?_) (fun row h u hu=>((hrow row (hmem row h)).2 u hu).1.mono hmo)
    have hi':rows[k+i]?=some row:=by
     rw[←hr,List.getElem?_take] at hi
     split at hi
     ·rw[List.getElem?_drop] at hi;exact hi
     ·cases hi
    have:=hcell (k+i) j row u hi' hj
    rw[Nat.add_mul] at this
    unfold World.cell?
    rw[hh]
    simpa using this
 | q=>cases hw with|q h1 h2 h3=>exact⟨rfl,.q (.inl h1) h2 (fun u hu=>(h3 u hu).mono hmo)⟩
 | @frzp b l row hf hb hl hr hm ih=>
  subst hg
  refine⟨rfl,.c ?_⟩
  have hsz:szAt H b=0:=by unfold szAt;rw[hb];rfl
  obtain⟨B,t,hB,hh,hx⟩:=hp.blk _ _ hb
  have key:∀(j:Nat) (u:CV),row[j]?=some u→∃x,l[j]?=some x∧u.den=x.den ρ H∧Good w (newS fz m ρ H S) u:=fun j u hj=>by
   have hj':j < l.length:=by rw[hl];exact(List.getElem?_eq_some_iff.1 hj).1
   obtain⟨h1,h2⟩:=ih j _ u (List.getElem?_eq_getElem hj') hj (hx _ (List.getElem_mem hj')).1
   cases h2 with
   | c h2=>exact⟨_,List.getElem?_eq_getElem hj',h1,h2⟩
  rw[AV.den,hB,hsz]
  refine .p row B _ (.inr ⟨hf,b,hB,hm⟩) (fun j u hj=>?_) (fun u hu=>?_)
  ·obtain⟨x,h1,h2,_⟩:=key j u hj
   unfold World.cell?
   rw[hh]
   simp[h1,h2]
  ·obtain⟨j,hj⟩:=List.getElem?_of_mem hu
   obtain⟨_,_,_,h3⟩:=key j u hj
   exact h3
 | @frzf fn l row hl hr ih=>
  subst hg
  refine⟨rfl,.c ?_⟩
  cases hw with
  | f hw=>
   have key:∀(j:Nat) (u:CV),row[j]?=some u→∃x,l[j]?=some x∧u.den=x.den ρ H∧Good w (newS fz m ρ H S) u:=fun j u hj=>by
    have hj':j < l.length:=by rw[hl];exact(List.getElem?_eq_some_iff.1 hj).1
    obtain⟨h1,h2⟩:=ih j _ u (List.getElem?_eq_getElem hj') hj (hw _ (List.getElem_mem hj'))
    cases h2 with
    | c h2=>exact⟨_,List.getElem?_eq_getElem hj',h1,h2⟩
   have he:AV.den ρ H (.f fn l)=fnV fn (row.map CV.den).toArray:=by
    rw[AV.den,AV.denL_eq]
    congr 2
    refine List.ext_getElem? fun i=>?_
    rw[List.getElem?_map,List.getElem?_map]
    cases hr':row[i]? with
    | none=>rw[List.getElem?_eq_none (hl▸List.getElem?_eq_none_iff.1 hr')];rfl
    | some u=>obtain⟨x,h1,h2,_⟩:=key i u hr';rw[h1];exact congrArg some h2.symm
   rw[he]
   refine .f fn row fun u hu=>?_
   obtain⟨j,hj⟩:=List.getElem?_of_mem hu
   obtain⟨_,_,_,h3⟩:=key j u hj
   exact h3
 | @unf v fn row=>
  cases hw with
  | c hw=>cases hw with
   | f _ _ hg'=>
    have e:AV.den (reB ρ m) H' (.f fn (row.map .c))=fnV fn (row.map CV.den).toArray:=by rw[AV.den,AV.denL_eq,List.map_map];rfl
    refine⟨e,.f fun x hx=>?_⟩
    obtain⟨u,hu,rfl⟩:=List.mem_map.1 hx
    exact .c ((hg' u hu).mono hmo)
 | @mp b b' h=>
  cases hw with
  | mp h0 h1=>
   obtain⟨h2,h3,h4⟩:=hH.at_ h
   have ha:atB (reB ρ m) b'=atB ρ b:=by rw[zK,h]
   exact⟨by rw[AV.den,AV.den,ha],.mp h2 (by rw[ha];exact h1)⟩
 | @a l l' hl h ih=>
  cases hw with
  | a hw=>
   have key:∀i x x',l[i]?=some x→l'[i]?=some x'→_:=fun i x x' h1 h2=>ih i x x' h1 h2 (hw x (List.mem_of_getElem? h1))
   refine⟨?_,.a fun x' hx'=>?_⟩
   ·simp only[AV.den,AV.denL_eq]
    congr 2
    refine List.ext_getElem? fun i=>?_
    rw[List.getElem?_map,List.getElem?_map]
    rcases Nat.lt_or_ge i l.length with hi|hi
    ·rw[List.getElem?_eq_getElem hi,List.getElem?_eq_getElem (hl▸hi)]
     exact congrArg some (key i _ _ (List.getElem?_eq_getElem hi) (List.getElem?_eq_getElem (hl▸hi))).1
    ·rw[List.getElem?_eq_none hi,List.getElem?_eq_none (hl▸hi)];rfl
   ·obtain⟨i,hi⟩:=List.getElem?_of_mem hx'
    have hil:i < l.length:=by rw[hl];exact(List.getElem?_eq_some_iff.1 hi).1
    exact(key i _ _ (List.getElem?_eq_getElem hil) hi).2
 | @t l l' hl h ih=>
  cases hw with
  | t hw=>
   have key:∀i x x',l[i]?=some x→l'[i]?=some x'→_:=fun i x x' h1 h2=>ih i x x' h1 h2 (hw x (List.mem_of_getElem? h1))
   refine⟨?_,.t fun x' hx'=>?_⟩
   ·simp only[AV.den,AV.denL_eq]
    congr 2
    refine List.ext_getElem? fun i=>?_
    rw[List.getElem?_map,List.getElem?_map]
    rcases Nat.lt_or_ge i l.length with hi|hi
    ·rw[List.getElem?_eq_getElem hi,List.getElem?_eq_getElem (hl▸hi)]
     exact congrArg some (key i _ _ (List.getElem?_eq_getElem hi) (List.getElem?_eq_getElem (hl▸hi))).1
    ·rw[List.getElem?_eq_none hi,List.getElem?_eq_none (hl▸hi)];rfl
   ·obtain⟨i,hi⟩:=List.getElem?_of_mem hx'
    have hil:i < l.length:=by rw[hl];exact(List.getElem?_eq_some_iff.1 hi).1
    exact(key i _ _ (List.getElem?_eq_getElem hil) hi).2
 | @f fn l l' hl h ih=>
  cases hw with
  | f hw=>
   have key:∀i x x',l[i]?=some x→l'[i]?=some x'→_:=fun i x x' h1 h2=>ih i x x' h1 h2 (hw x (List.mem_of_getElem? h1))
   refine⟨?_,.f fun x' hx'=>?_⟩
   ·simp only[AV.den,AV.denL_eq]
    congr 2
    refine List.ext_getElem? fun i=>?_
    rw[List.getElem?_map,List.getElem?_map]
    rcases Nat.lt_or_ge i l.length with hi|hi
    ·rw[List.getElem?_eq_getElem hi,List.getElem?_eq_getElem (hl▸hi)]
     exact congrArg some (key i _ _ (List.getElem?_eq_getElem hi) (List.getElem?_eq_getElem (hl▸hi))).1
    ·rw[List.getElem?_eq_none hi,List.getElem?_eq_none (hl▸hi)];rfl
   ·obtain⟨i,hi⟩:=List.getElem?_of_mem hx'
    have hil:i < l.length:=by rw[hl];exact(List.getElem?_eq_some_iff.1 hi).1
    exact(key i _ _ (List.getElem?_eq_getElem hil) hi).2
theorem CvL.sound {l l':List AV} (h:CvL g m H fz l l') (hp:RH w S ρ H) (hg:g=AV.den ρ H) (hH:CvH g m H fz m H') (hw:∀x∈l,WF w S ρ H x):l'.map (AV.den (reB ρ m) H')=l.map (AV.den ρ H)∧∀x'∈l',WF w (newS fz m ρ H S) (reB ρ m) H' x'∧∃x∈l,x'.den (reB ρ m) H'=x.den ρ H:=by
 induction h with
 | nil=>exact⟨rfl,fun _ h=>by cases h⟩
 | cons h hl ih=>
  obtain⟨h1,h2⟩:=h.sound hp hg hH (hw _ (by simp))
  obtain⟨h3,h4⟩:=ih (fun x hx=>hw x (by simp[hx]))
  refine⟨by rw[List.map_cons,List.map_cons,h1,h3],fun x' hx'=>?_⟩
  rcases List.mem_cons.1 hx' with rfl|hx'
  ·exact⟨h2,_,by simp,h1⟩
  ·obtain⟨h5,x,hx,h6⟩:=h4 x' hx'
   exact⟨h5,x,by simp[hx],h6⟩
theorem CvC.sound {u u':CV} (h:CvC g m H fz u u') (hp:RH w S ρ H) (hg:g=AV.den ρ H) (hH:CvH g m H fz m H') (hu:Good w S u):u'.den=u.den∧Good w (newS fz m ρ H S) u':=by
 cases h with
 | same=>exact⟨rfl,hu.mono fun b hb=>⟨.inl hb,rfl⟩⟩
 | @frz q x v rs hq hx=>
  obtain⟨h1,h2⟩:=hp.blk q _ hq
  obtain⟨_,h4⟩:=hx.sound hp hg hH h2
  refine⟨rfl, ?_⟩
  cases h4 with
  | c h4=>rw[hg,h1] at h4;exact h4
theorem CvR.sound {l l':List CV} (h:CvR g m H fz l l') (hp:RH w S ρ H) (hg:g=AV.den ρ H) (hH:CvH g m H fz m H'):(∀u∈l,Good w S u)→l'.length=l.length∧∀(j:Nat) (u':CV),l'[j]?=some u'→∃u,l[j]?=some u∧u'.den=u.den∧Good w (newS fz m ρ H S) u':=by
 induction h with
 | nil=>exact fun _=>⟨rfl,fun j u' h=>by simp at h⟩
 | @cons u u' l l' h hl ih=>
  intro hu
  obtain⟨i1,i2⟩:=ih fun x hx=>hu x (by simp[hx])
  obtain⟨h1,h2⟩:=h.sound hp hg hH (hu u (by simp))
  refine⟨by simp[i1],fun j y hj=>?_⟩
  cases j with
  | zero=>simp only[List.getElem?_cons_zero,Option.some.injEq] at hj;subst hj;exact⟨u,rfl,h1,h2⟩
  | succ j=>simpa using i2 j y (by simpa using hj)
theorem CvRs.sound {l l':List (List CV)} (h:CvRs g m H fz l l') (hp:RH w S ρ H) (hg:g=AV.den ρ H) (hH:CvH g m H fz m H') (hu:∀r∈l,∀u∈r,Good w S u):l'.length=l.length∧∀(k:Nat) (r':List CV),l'[k]?=some r'→∃r,l[k]?=some r∧r'.length=r.length∧∀(j:Nat) (u':CV),r'[j]?=some u'→∃u,r[j]?=some u∧u'.den=u.den∧Good w (newS fz m ρ H S) u':=by
 cases h with
 | same=>exact⟨rfl,fun k r' h=>⟨r',h,rfl,fun j u' hj=>⟨u',hj,rfl,(hu r' (List.mem_of_getElem? h) u' (List.mem_of_getElem? hj)).mono fun b hb=>⟨.inl hb,rfl⟩⟩⟩⟩
 | @last l r r' h=>
  obtain⟨h1,h2⟩:=h.sound hp hg hH fun u hx=>hu r (by simp) u hx
  refine⟨by simp,fun k y hk=>?_⟩
  rcases Nat.lt_or_ge k l.length with hlt|hge
  ·rw[List.getElem?_append_left hlt] at hk
   exact⟨y,by rw[List.getElem?_append_left hlt];exact hk,rfl,fun j u' hj=>⟨u',hj,rfl,(hu y (by simp[List.mem_of_getElem? hk]) u' (List.mem_of_getElem? hj)).mono fun b hb=>⟨.inl hb,rfl⟩⟩⟩
  ·rw[List.getElem?_append_right hge] at hk
   rw[List.getElem?_append_right hge]
   cases hq:k - l.length with
   | zero=>
    rw[hq] at hk
    simp only[List.getElem?_cons_zero,Option.some.injEq] at hk
    subst hk
    exact⟨r,rfl,h1,h2⟩
   | succ n=>rw[hq] at hk;simp at hk
theorem CvH.inP (hH:CvH g m H fz m H') {i k B:Nat} (h:inP H' i k B):∃b,m[i]?=some (some b)∧Go.Proofs.YtophoepbedlhjaaGreatDoor.inP H b k B:=by
 obtain⟨o',h1,h2⟩:=h
 obtain⟨l,e,rfl,h3⟩:=h2
 rcases hH.spec.2 i _ h1 with⟨_,_,_,_,_,h,_⟩|⟨_,_,_,_,_,_,_,h⟩|⟨_,_,_,h⟩|⟨_,_,_,_,_,_,h,_⟩|⟨_,_,_,_,_,_,_,_,h,_⟩|⟨b,o,e1,e2,e4⟩
 ·cases h
 ·cases h
 ·cases h
 ·cases h
 ·cases h
 ·cases e4 with
  | pool hl=>subst hl;exact⟨b,e1,_,e2,_,e,rfl,h3⟩
theorem PL.re (hp:PL w S ρ H) (hm:(m.filterMap id).Nodup) (hH:CvH g m H fz m H'):PL w (newS fz m ρ H S) (reB ρ m) H':=by
 refine⟨fun i k i' k' B h1 h2=>?_,fun i k B h1=>?_⟩
 ·obtain⟨b,e1,e2⟩:=hH.inP h1
  obtain⟨b',f1,f2⟩:=hH.inP h2
  obtain⟨g1,g2⟩:=hp.pd _ _ _ _ _ e2 f2
  subst g1
  exact⟨zc1 hm i i' b e1 f1,g2⟩
 ·obtain⟨b,e1,e2⟩:=hH.inP h1
  obtain⟨g1,g2,g3⟩:=hp.ps _ _ _ e2
  refine⟨fun hb=>?_,fun j hj=>?_,g3⟩
  ·rcases hb with hb|⟨_,b2,h3,_⟩
   ·exact g1 hb
   ·exact g2 _ h3
  ·rw[zK] at hj
   cases hq:m[j]? with
   | none=>rw[hq] at hj;cases hj
   | some x=>cases x with
    | none=>rw[hq] at hj;cases hj
    | some c=>rw[hq] at hj;exact g2 _ hj
theorem RH.re (hp:RH w S ρ H) (hg:g=AV.den ρ H) (hm:(m.filterMap id).Nodup) (hH:CvH g m H fz m H'):RH w (newS fz m ρ H S) (reB ρ m) H':=by
 have hsrc:∀i B,atB (reB ρ m) i=some B→∃b,m[i]?=some (some b)∧atB ρ b=some B:=fun i B hi=>by
  rw[zK] at hi
  cases h:m[i]? with
  | none=>rw[h] at hi;cases hi
  | some x=>
   cases x with
   | none=>rw[h] at hi;cases hi
   | some b=>rw[h] at hi;exact⟨b,rfl,hi⟩
 refine⟨by rw[←hH.spec.1];simp[reB],fun i i' B hi hi'=>?_,fun i B hi hS=>?_,fun i B hi=>?_,fun b hb=>?_,fun i o' ho=>?_,hp.pl.re hm hH⟩
 ·obtain⟨b,h1,h2⟩:=hsrc i B hi
  obtain⟨b',h1',h2'⟩:=hsrc i' B hi'
  have:=hp.nd b b' B h2 h2'
  subst this
  exact zc1 hm i i' b h1 h1'
 ·obtain⟨b,h1,h2⟩:=hsrc i B hi
  rcases hS with hS|⟨_,b2,h3,h5⟩
  ·exact hp.ap b B h2 hS
  ·have:=hp.nd b b2 B h2 h3
   subst this
   have:m.contains (some b)=true:=by simpa using List.mem_of_getElem? h1
   rw[this] at h5;cases h5
 ·obtain⟨b,h1,h2⟩:=hsrc i B hi
  exact hp.lt b B h2
 ·rcases hb with hb|⟨_,b2,h3,_⟩
  ·exact hp.sS b hb
  ·exact hp.lt b2 b h3
 ·rcases hH.spec.2 i o' ho with⟨b,l,l',e1,e2,rfl,e4⟩|⟨b,e,sz,cap,rows,e1,e2,rfl⟩|⟨e,sz,e1,rfl⟩|⟨b,x,x',v,e1,e2,rfl,e4⟩|⟨b,e,sz,cap,rows,rows',e1,e2,rfl,e4⟩|⟨b,o,e1,e2,e4⟩
  ·rw[zK,e1]
   obtain⟨B,t,h1,h2,h3⟩:=hp.blk b _ e2
   obtain⟨h4,h5⟩:=e4.sound hp hg hH (fun x hx=>(h3 x hx).1)
   refine⟨B,t,h1,by rw[h4];exact h2,fun x' hx'=>?_⟩
   obtain⟨h6,x,hx,h7⟩:=h5 x' hx'
   exact⟨h6,by rw[h7];exact(h3 x hx).2⟩
  ·rw[zK,e1]
   have hmo:Mo w S w (newS fz m ρ H S):=fun b hb=>⟨.inl hb,rfl⟩
   rcases hp.blk b _ e2 with h|⟨B,cs,h1,h2,h3,h4,h5,h6,h7⟩
   ·exact .inl h
   ·exact .inr ⟨B,cs,h1,h2,h3,h4,h5,fun row hr=>⟨(h6 row hr).1,fun u hu=>⟨((h6 row hr).2 u hu).1.mono hmo,((h6 row hr).2 u hu).2⟩⟩,h7⟩
  ·rw[zK,e1]
   exact .inl ⟨rfl,rfl,rfl⟩
  ·obtain⟨h1,h2⟩:=hp.blk b _ e2
   obtain⟨h3,h4⟩:=e4.sound hp hg hH h2
   exact⟨h3.trans h1,h4⟩
  ·rw[zK,e1]
   rcases hp.blk b _ e2 with⟨h1,h2,h3⟩|⟨B,cs,h1,h2,h3,h4,h5,h6,h7⟩
   ·obtain⟨g1,_⟩:=e4.sound hp hg hH (fun r hr=>by rw[h3] at hr;cases hr)
    exact .inl ⟨h1,h2,by rw[h3] at g1;exact List.eq_nil_of_length_eq_zero g1⟩
   ·obtain⟨g1,g2⟩:=e4.sound hp hg hH (fun r hr u hu=>((h6 r hr).2 u hu).1)
    refine .inr ⟨B,cs,h1,h2,h3,h4,by omega,fun row hr=>?_,fun k j row u hk hj=>?_⟩
    ·obtain⟨k,hk⟩:=List.getElem?_of_mem hr
     obtain⟨r,q1,q2,q3⟩:=g2 k row hk
     refine⟨q2.trans (h6 r (List.mem_of_getElem? q1)).1,fun u hu=>?_⟩
     obtain⟨j,hj⟩:=List.getElem?_of_mem hu
     obtain⟨y,p1,p2,p3⟩:=q3 j u hj
     exact⟨p3,by rw[p2];exact((h6 r (List.mem_of_getElem? q1)).2 y (List.mem_of_getElem? p1)).2⟩
    ·obtain⟨r,q1,q2,q3⟩:=g2 k row hk
     obtain⟨y,p1,p2,p3⟩:=q3 j u hj
     rw[p2];exact h7 k j r y q1 p1
  ·rw[zK,e1]
   have hmo:Mo w S w (newS fz m ρ H S):=fun b hb=>⟨.inl hb,rfl⟩
   have hb:=hp.blk b _ e2
   cases e4 with
   | map h=>
    subst h
    obtain⟨B,ms,h1,h2,h3,h4⟩:=hb
    exact⟨B,ms,h1,h2,h3,fun e he=>(h4 e he).mono hmo⟩
   | @itr q q' s l sn sn' h hs=>
    subst hs
    obtain⟨B,h1,h2,h3,h4⟩:=hb
    have ha:atB (reB ρ m) q'=atB ρ q:=by rw[zK,h]
    exact⟨B,h1,by rw[ha];exact h2,(hH.at_ h).1,by rw[ha];exact h4⟩
   | sit h=>subst h;exact hb
   | bts h=>subst h;exact hb
   | dead=>trivial
   | pool h=>subst h;exact⟨hb.1,fun e he=>(hb.2 e he).mono (fun u hu=>hu.mono hmo) (fun _ _=>rfl)⟩
   | boxt h=>
    obtain⟨B,h1,h2,h3⟩:=hb
    obtain⟨h4,h5⟩:=(h.cvl (g:=g) (H:=H) (fz:=fz)).sound hp hg hH (fun x hx=>(h3 x hx).1)
    refine⟨B,h1,by rw[h4];exact h2,fun x' hx'=>?_⟩
    obtain⟨h6,x,hx,h7⟩:=h5 x' hx'
    exact⟨h6,by rw[h7];exact(h3 x hx).2⟩
end
def Wk (N:Nat) (E:Env) (F:Fm) (H:List OB) (K:Fm→List OB→Prop):Prop:=∀S ρ a w,R N E S ρ F H a w→∃S' ρ' F' H',K F' H'∧R N E S' ρ' F' H' a w
section
variable {P:Program} {N:Nat} {E:Env} {F:Fm} {H:List OB} {K:Fm→List OB→Prop} {Q:Exit→Fm→List OB→Prop}
theorem CvF.get {g:AV→Value} {m:List (Option Nat)} {fz:Bool} {F F':Fm} (h:CvF g m H fz F F'):∀i x',F'.lookup i=some x'→∃x,F.lookup i=some x∧Cvt g m H fz x x':=by
 induction h with
 | nil=>intro i x' h;cases h
 | @cons j x y F' hj hx hF ih=>
  intro i x' hi
  rw[List.lookup_cons] at hi
  split at hi
  ·rename_i he
   have:i=j:=by simpa using he
   subst this
   injection hi with hi
   subst hi
   exact⟨x,hj,hx⟩
  ·exact ih i x' hi
theorem zf1 (m:List (Option Nat)) (F':(AV→Value)→Fm) (H':(AV→Value)→List OB) (hm:(m.filterMap id).Nodup) (hl:∀i,i < E.H0.length→m[i]?=some (some i)) (hF:∀g,CvF g m H true F (F' g)) (hH:∀g,CvH g m H true m (H' g)) (h:∀g,K (F' g) (H' g)) :
    Wk N E F H K:=fun S ρ a w hR=>by
 have hH':=hH (AV.den ρ H)
 refine⟨newS true m ρ H S,reB ρ m,_,_,h (AV.den ρ H),hR.df,hR.sz,fun i x' hx'=>?_,hR.hp.re rfl hm hH',hR.st,fun i B hi=>?_,fun b hb=>?_,fun i k B hi=>by obtain⟨b,_,h1⟩:=hH'.inP hi;exact hR.pw b k B h1,fun i hi=>?_,fun hpp i hi=>?_⟩
 ·obtain⟨x,h1,h2⟩:=(hF (AV.den ρ H)).get i x' hx'
  obtain⟨h3,h4⟩:=hR.fr i x h1
  obtain⟨h5,h6⟩:=h2.sound hR.hp rfl hH' h4
  exact⟨by rw[h5];exact h3,h6⟩
 ·rw[zK] at hi
  cases h1:m[i]? with
  | none=>rw[h1] at hi;cases hi
  | some y=>
   cases y with
   | none=>rw[h1] at hi;cases hi
   | some b=>
    rw[h1] at hi
    rcases hR.nw b B hi with h2|⟨h2,h3⟩
    ·exact .inl h2
    ·have:=zc1 hm i b b h1 (hl b h2)
     subst this
     exact .inr ⟨h2,h3⟩
 ·rcases hb with hb|⟨_,b2,h3,h5⟩
  ·exact hR.nS b hb
  ·rcases hR.nw b2 b h3 with h6|⟨h6,_⟩
   ·exact .inr h6
   ·have:m.contains (some b2)=true:=by simpa using List.mem_of_getElem? (hl b2 h6)
    rw[this] at h5;cases h5
 ·obtain⟨h1,h2⟩:=hR.ln i hi
  have hmi:=hl i hi
  refine⟨(hH'.at_ hmi).1,fun o ho hs=>?_⟩
  obtain⟨h3,o',h4,h5⟩:=h2 o ho hs
  obtain⟨o2,h6,h7⟩:=hH'.shp hmi h4 (by rw[h5];exact hs)
  exact⟨by rw[zK,hmi];exact h3,o2,h6,h7.trans h5⟩
 ·have hmi:=hl i hi
  obtain⟨h1,h2,h3⟩:=hR.pn hpp i hi
  obtain⟨h4,h5,h6⟩:=hH'.at_ hmi
  exact⟨by rw[zK,hmi];exact h1,by rw[h5];exact h2,by rw[h6];exact h3⟩
end
end Go.Proofs.YtophoepbedlhjaaGreatDoor
