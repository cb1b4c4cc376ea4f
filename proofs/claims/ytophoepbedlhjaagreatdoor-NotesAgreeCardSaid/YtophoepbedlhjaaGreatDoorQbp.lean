/- Closed calls: lookups in maps, lengths, comparisons with nil; all readers. Conditions: none. -/
import Derived.Test.YtophoepbedlhjaaGreatDoorQbo
set_option linter.unusedSimpArgs false
set_option linter.unusedVariables false
namespace Go.Proofs.YtophoepbedlhjaaGreatDoor
section
open Go Go.RowKit
set_option maxRecDepth 100000
def xcl:XV→List XV
 | .a l=>l
 | x=>[x]
def XV.one:XV→Bool
 | .v x=>x.oneCell'
 | .a _=>false
 | .t _=>false
 | _=>true
section
variable {P:Program} {N:Nat} {w0:XEnv} {ρ γ:Nat→Nat} {F:XFr} {H:XHp} {a:Act} {w:World} {o:Oper}
theorem XV.one_den {x:XV} (h:x.one=true):(x.den ρ γ).oneCell'=true:=by
 cases x <;> first|exact h|rfl|cases h
theorem zE6 {v:XV} (h:(xcl v).all XV.one=true):(v.den ρ γ).cells=((xcl v).map (XV.den ρ γ)).toArray∧∀x∈xcl v,(x.den ρ γ).oneCell'=true:=by
 have h':∀x∈xcl v,(x.den ρ γ).oneCell'=true:=fun x hx=>XV.one_den (List.all_eq_true.1 h x hx)
 refine⟨?_,h'⟩
 cases v with
 | a l=>simp[XV.den,XV.denL_eq,Value.cells,xcl]
 | _=>
  have h2:=h' _ (List.mem_singleton.2 rfl)
  simp only[xcl,List.map_cons,List.map_nil]
  revert h2
  generalize XV.den ρ γ _=u
  intro this
  cases u <;> simp[Value.oneCell'] at this <;> rfl
theorem zA11 {A:Nat→Nat→Prop} {v:XV} (h:v.ok A):∀x∈xcl v,x.ok A:=by
 cases v with
 | a l=>rw[XV.ok,XV.okL_iff] at h;exact h
 | _=>intro x hx;rw[List.mem_singleton.1 hx];exact h
theorem zh5 {l xs:List XV} {off:Nat} (h:off+xs.length≤l.length):setAll (l.map (XV.den ρ γ)).toArray off (xs.map (XV.den ρ γ))=((putL l off xs).map (XV.den ρ γ)).toArray:=by
 refine Array.ext_getElem? fun k=>?_
 rw[zd1 _ _ _ _ (by simpa using h)]
 simp only[List.length_map,List.getElem?_map,List.getElem?_toArray]
 rw[zr2 h]
 split <;> rfl
def xbounds (P:Program) (F:XFr) (is:Bool) (n c:Nat) (lo hi mx:Option Operand):Option (Nat × Nat × Nat):=match lo.map (xevp F),hi.map (xevp F),mx.map (xevp F) with
 | none,none,none=>semPure P (Instr.sliceBounds is n c none none none)
 | some (some l),none,none=>semPure P (Instr.sliceBounds is n c (some l) none none)
 | none,some (some h),none=>semPure P (Instr.sliceBounds is n c none (some h) none)
 | some (some l),some (some h),none=>semPure P (Instr.sliceBounds is n c (some l) (some h) none)
 | none,some (some h),some (some m)=>semPure P (Instr.sliceBounds is n c none (some h) (some m))
 | some (some l),some (some h),some (some m)=>semPure P (Instr.sliceBounds is n c (some l) (some h) (some m))
 | _,_,_=>none
theorem zZ4 {is:Bool} {n c:Nat} {lo hi mx:Option Operand} {r:Nat × Nat × Nat} (h:xbounds P F is n c lo hi mx=some r) (hR:XR N w0 ρ γ F H a w):(Instr.sliceBounds is n c (lo.map a.eval) (hi.map a.eval) (mx.map a.eval)).run P w = .ok r w:=by
 have key:∀{x:Option Operand} {u:Value},x.map (xevp F)=some (some u)→x.map a.eval=some u:=fun {x u} hx=>by
  simp only[Option.map_eq_some_iff] at hx
  obtain⟨y,h1,h2⟩:=hx
  rw[h1,Option.map_some,hR.evp h2]
 have keyn:∀{x:Option Operand},x.map (xevp F)=none→x.map a.eval=none:=fun {x} hx=>by
  rw[Option.map_eq_none_iff] at hx
  rw[hx];rfl
 unfold xbounds at h
 split at h
 ·rename_i h1 h2 h3;rw[keyn h1,keyn h2,keyn h3];exact zM w h
 ·rename_i l h1 h2 h3;rw[key h1,keyn h2,keyn h3];exact zM w h
 ·rename_i l h1 h2 h3;rw[keyn h1,key h2,keyn h3];exact zM w h
 ·rename_i l l2 h1 h2 h3;rw[key h1,key h2,keyn h3];exact zM w h
 ·rename_i l l2 h1 h2 h3;rw[keyn h1,key h2,key h3];exact zM w h
 ·rename_i l l2 l3 h1 h2 h3;rw[key h1,key h2,key h3];exact zM w h
 ·cases h
def xnat (F:XFr) (d:Nat):Option Operand→Option Nat
 | none=>some d
 | some y=>match xevp F y with
  | some (.int _ (.ofNat n))=>some n
  | _=>none
theorem zz9 {x:Option Operand} {d l:Nat} (h:xnat F d x=some l) (hR:XR N w0 ρ γ F H a w):(x.map a.eval=none∧l=d)∨∃kd,x.map a.eval=some (.int kd l):=by
 unfold xnat at h
 split at h
 ·injection h with h;exact .inl ⟨rfl,h.symm⟩
 ·split at h
  ·rename_i kd n hy;injection h with h;subst h;exact .inr ⟨kd,by rw[Option.map_some,hR.evp hy];rfl⟩
  ·cases h
def xslice (P:Program) (F:XFr) (op:Op):Option XV:=match op with
 | .slice t x lo hi mx=>(match xev F x with
  | some (.sl b k n c)=>(match elemSz P t,xbounds P F true n c lo hi mx with
   | some (_,sz),some (l,h,m)=>(match Nat.beq m l with
    | true=>some (.sl b k (h - l) 0)
    | false=>some (.sl b (k+l*sz) (h - l) (m - l)))
   | _,_=>none)
  | some (.sg b k n e)=>(match elemSz P t,mx,xnat F 0 lo,xnat F n hi with
   | some (_,sz),none,some l,some h=>bif Nat.ble h n && Nat.ble l h then (bif Nat.beq l 0 || Nat.blt l n then some (.sg b (k+l*sz) (h - l) (e+l)) else some (.se b k (k+l*sz) (e+l))) else none
   | _,_,_,_=>none)
  | some (.p b j)=>(match xarrSz P t with
   | some (n,_,sz)=>(match xbounds P F false n n lo hi mx with
    | some (l,h,m)=>(match Nat.beq m l with
     | true=>some (.sl b j (h - l) 0)
     | false=>some (.sl b (j+l*sz) (h - l) (m - l)))
    | none=>none)
   | none=>none)
  | _=>none)
 | _=>none
theorem zw11 {v:XV} (h:xslice P F o.op=some v) (hR:XR N w0 ρ γ F H a w):(execOp a.eval o).run P w = .ok (.value (v.den ρ γ)) w∧v.ok (H.has γ):=by
 unfold xslice at h
 split at h
 ·rename_i t x lo hi mx ho
  split at h
  ·rename_i b k n c hx
   split at h
   ·rename_i e sz l hh m he hb
    obtain⟨hu,hs⟩:=zL3 he
    obtain⟨h1,h2⟩:=hR.ev hx
    have hrun:=zZ4 (w:=w) hb hR
    simp only[XV.den] at h1
    have hex:(execOp a.eval o).run P w = .ok (.value (.slice (if m=l then some ⟨ρ b,k,none⟩ else some ⟨ρ b,k+l*sz,none⟩) (hh - l) (m - l))) w:=by
     simp only[execOp,ho,h1,Instr.sliceAt,Instr.slice,Sem.run_bind,zK hu,Result.andThen_ok,hrun,zN1 hs,Sem.run_pure,Option.map_some,zB6]
    rw[hex]
    split at h
    ·rename_i hm
     injection h with h
     subst h
     have:=Nat.eq_of_beq_eq_true hm
     exact⟨by rw[if_pos this,this,Nat.sub_self];rfl,h2⟩
    ·rename_i hm
     injection h with h
     subst h
     exact⟨by rw[if_neg (Nat.ne_of_beq_eq_false hm)];rfl,h2⟩
   ·cases h
  ·rename_i b k n e hx
   split at h
   ·rename_i e' sz l hh he hl hhi
    obtain⟨hu,hs⟩:=zL3 he
    obtain⟨h1,h2⟩:=hR.ev hx
    cases hc:(Nat.ble hh n && Nat.ble l hh) with
    | false=>rw[hc] at h;cases h
    | true=>
     rw[hc] at h
     simp only[cond_true] at h
     simp only[Bool.and_eq_true,Nat.ble_eq] at hc
     obtain⟨hc2,hc3⟩:=hc
     have hcap:n≤γ b - e:=by have:=h2.2;omega
     have hrun:=zA2 (P:=P) (w:=w) (c:=γ b - e) (zz9 hl hR) (zz9 hhi hR) hc3 (Nat.le_trans hc2 hcap) true
     simp only[XV.den] at h1
     have hex:(execOp a.eval o).run P w = .ok (.value (.slice (if γ b - e=l then some ⟨ρ b,k,none⟩ else some ⟨ρ b,k+l*sz,none⟩) (hh - l) (γ b - e - l))) w:=by
      simp only[execOp,ho,h1,Instr.sliceAt,Instr.slice,Sem.run_bind,zK hu,Result.andThen_ok,Option.map_none,hrun,zN1 hs,Sem.run_pure,Option.map_some,zB6]
     rw[hex]
     cases hc1:(Nat.beq l 0 || Nat.blt l n) with
     | true=>
      rw[hc1] at h
      injection h with h
      subst h
      simp only[Bool.or_eq_true,Nat.blt_eq] at hc1
      replace hc1:l=0∨l < n:=hc1.imp Nat.eq_of_beq_eq_true id
      refine⟨?_,⟨h2.1,by have:=h2.2;omega⟩⟩
      simp only[XV.den,Nat.sub_add_eq]
      split
      ·rename_i hq
       have:l=0:=by omega
       subst this
       simp
      ·rfl
     | false=>
      rw[hc1] at h
      injection h with h
      subst h
      simp only[Bool.or_eq_false_iff] at hc1
      have hc4:¬l < n:=fun h=>by rw[←Nat.blt_eq] at h;rw[h] at hc1;cases hc1.2
      have hln:hh - l=0:=by omega
      refine⟨?_,⟨h2.1,by have:=h2.2;omega⟩⟩
      simp only[XV.den,Nat.sub_add_eq,hln]
      have h3:=h2.2
      by_cases hq:γ b - e=l
      ·rw[if_pos hq,if_pos (by omega)]
      ·rw[if_neg hq,if_neg (by omega)]
   ·cases h
  ·rename_i b j hx
   split at h
   ·rename_i n e sz ha
    obtain⟨hu,hs⟩:=zN2 ha
    split at h
    ·rename_i l hh m hb
     obtain⟨h1,h2⟩:=hR.ev hx
     have hrun:=zZ4 (w:=w) hb hR
     simp only[XV.den] at h1
     have hex:(execOp a.eval o).run P w = .ok (.value (.slice (some (if m=l then ⟨ρ b,j,none⟩ else ⟨ρ b,j+l*sz,none⟩)) (hh - l) (m - l))) w:=by
      simp only[execOp,ho,h1,Instr.sliceAt,Instr.sureAddr,Sem.run_bind,zK hu,Result.andThen_ok,hrun,zN1 hs,Sem.run_pure,zB6]
     rw[hex]
     split at h
     ·rename_i hm
      injection h with h
      subst h
      have:=Nat.eq_of_beq_eq_true hm
      exact⟨by rw[if_pos this,this,Nat.sub_self];rfl,h2⟩
     ·rename_i hm
      injection h with h
      subst h
      exact⟨by rw[if_neg (Nat.ne_of_beq_eq_false hm)];rfl,h2⟩
    ·cases h
   ·cases h
  ·cases h
 ·cases h
end
end
section
open Go Go.RowKit
set_option maxRecDepth 100000
def xevL (F:XFr):List Operand→Option (List XV)
 | []=>some []
 | x :: l=>match xevn F x,xevL F l with
  | some v,some vs=>some (v :: vs)
  | _,_=>none
def xfill (F:XFr) (pl:Nat→Option (Nat × Nat)):List (Nat × Operand)→List XV→Option (List XV)
 | [],l=>some l
 | (i,x) :: ps,l=>match xevn F x,pl i with
  | some v,some (off,k)=>bif Nat.beq (xcl v).length k && Nat.ble (off+k) l.length && (xcl v).all XV.one then xfill F pl ps (putL l off (xcl v)) else none
  | _,_=>none
section
variable {P:Program} {N:Nat} {w0:XEnv} {ρ γ:Nat→Nat} {F:XFr} {H:XHp} {a:Act} {w:World} {o:Oper}
theorem XR.evL (hR:XR N w0 ρ γ F H a w):∀{l:List Operand} {vs:List XV},xevL F l=some vs→l.map a.eval=XV.denL ρ γ vs∧XV.okL (H.has γ) vs
 | [],vs,h=>by cases h;exact⟨rfl,trivial⟩
 | x :: l,vs,h=>by
  unfold xevL at h
  split at h
  ·rename_i v vs' hv hl
   injection h with h
   subst h
   obtain⟨h1,h2⟩:=hR.evn hv
   obtain⟨h3,h4⟩:=XR.evL hR hl
   exact⟨by rw[List.map_cons,h1,h3,XV.denL],h2,h4⟩
  ·cases h
theorem zi4 {l xs:List XV} {j:Nat} {x:XV} (h:x∈putL l j xs):x∈l∨x∈xs:=by
 unfold putL at h
 rcases List.mem_append.1 h with h|h
 ·rcases List.mem_append.1 h with h|h
  ·exact .inl (List.mem_of_mem_take h)
  ·exact .inr h
 ·exact .inl (List.mem_of_mem_drop h)
theorem zX3 {pl:Nat→Option (Nat × Nat)} (hR:XR N w0 ρ γ F H a w):∀{ps:List (Nat × Operand)} {l l':List XV},xfill F pl ps l=some l'→(∀x∈l,x.ok (H.has γ))→(∀x∈l,(x.den ρ γ).oneCell'=true) →
    Instr.fill pl (l.map (XV.den ρ γ)).toArray (ps.map fun x=>(x.1,a.eval x.2))=some (l'.map (XV.den ρ γ)).toArray∧(∀x∈l',x.ok (H.has γ))∧(∀x∈l',(x.den ρ γ).oneCell'=true)∧l'.length=l.length
 | [],l,l',h,hl,h1=>by cases h;exact⟨rfl,hl,h1,rfl⟩
 | (i,x) :: ps,l,l',h,hl,h1=>by
  unfold xfill at h
  split at h
  ·rename_i v off k hv hp
   cases hc:(Nat.beq (xcl v).length k && Nat.ble (off+k) l.length && (xcl v).all XV.one) with
   | false=>rw[hc] at h;cases h
   | true=>
    rw[hc] at h
    simp only[Bool.and_eq_true,Nat.ble_eq] at hc
    obtain⟨⟨hc1,hc2⟩,hc3⟩:=hc
    have hk:=Nat.eq_of_beq_eq_true hc1
    obtain⟨g1,g2⟩:=hR.evn hv
    obtain⟨e1,e2⟩:=zE6 (ρ:=ρ) (γ:=γ) hc3
    have e3:=zA11 g2
    obtain⟨q1,q2,q3,q4⟩:=zX3 hR h (fun x hx=>by
     rcases zi4 hx with hx|hx
     ·exact hl x hx
     ·exact e3 x hx) (fun x hx=>by
     rcases zi4 hx with hx|hx
     ·exact h1 x hx
     ·exact e2 x hx)
    refine⟨?_,q2,q3,by rw[q4,zR6 (by omega)]⟩
    simp only[List.map_cons,Instr.fill,hp,g1,e1,List.size_toArray,List.length_map,hk,ne_eq,not_true_eq_false,decide_false,Bool.false_or]
    rw[if_neg (by simp;omega),zA4]
    simp only
    rw[zh5 (by omega)]
    exact q1
  ·cases h
def xzero (P:Program) (t:TypeId):Option (List XV):=match (P.info? t).bind (·.zero) with
 | some z=>bif z.cells.toList.all Value.oneCell' then some (z.cells.toList.map .v) else none
 | none=>none
theorem zV3 {t:TypeId} {l:List XV} (h:xzero P t=some l):∃z,(zeroValue t).run P w = .ok z w∧z.cells=(l.map (XV.den ρ γ)).toArray∧(∀x∈l,x.ok (H.has γ))∧(∀x∈l,(x.den ρ γ).oneCell'=true)∧(P.info? t).bind (·.zero)=some z:=by
 unfold xzero at h
 split at h
 ·rename_i z hz
  cases hc:z.cells.toList.all Value.oneCell' with
  | false=>rw[hc] at h;cases h
  | true=>
   rw[hc] at h
   injection h with h
   subst h
   refine⟨z, ?_,by simp[Function.comp_def,XV.den],fun x hx=>?_,fun x hx=>?_,hz⟩
   ·unfold zeroValue typeInfo
    cases hi:P.info? t with
    | none=>rw[hi] at hz;cases hz
    | some i=>
     rw[hi] at hz
     simp only[Option.bind_some] at hz
     simp[hi,hz]
   ·obtain⟨v,hv,rfl⟩:=List.mem_map.1 hx;trivial
   ·obtain⟨v,hv,rfl⟩:=List.mem_map.1 hx;exact List.all_eq_true.1 hc v hv
 ·cases h
def xbuild (P:Program) (F:XFr) (op:Op):Option XV:=match op with
 | .build t ps=>(match xzero P t with
  | some z=>(match bplaces P t with
   | some pl=>(match xfill F (fun i=>pl[i]?) ps.toList z with
    | some l=>some (.a l)
    | none=>none)
   | none=>(match xarrSz P t with
    | some (_,_,sz)=>(match xfill F (fun i=>some (i*sz,sz)) ps.toList z with
     | some l=>some (.a l)
     | none=>none)
    | none=>none))
  | none=>none)
 | .makeFunc (.func f) first caps=>bif first.isEmpty then (match xevL F caps.toList with
  | some l=>some (.f f l)
  | none=>none) else none
 | .extract x i=>(match xevn F x with
  | some (.t l)=>l[i]?
  | _=>none)
 | .move x=>xevn F x
 | .assign x=>xevn F x
 | .pick c x y=>(match xevp F c with
  | some (.bool true)=>xevn F x
  | some (.bool false)=>xevn F y
  | _=>none)
 | _=>none
theorem zx2 {v:XV} (h:xbuild P F o.op=some v) (hR:XR N w0 ρ γ F H a w):(execOp a.eval o).run P w = .ok (.value (v.den ρ γ)) w∧v.ok (H.has γ):=by
 unfold xbuild at h
 split at h
 ·rename_i t ps ho
  have hps:(ps.map fun(i,x)=>(i,a.eval x)).toList=ps.toList.map fun x=>(x.1,a.eval x.2):=by simp
  split at h
  ·rename_i z hz
   obtain⟨zv,hz1,hz2,hz3,hz4,hz5⟩:=zV3 (w:=w) (ρ:=ρ) (γ:=γ) (H:=H) hz
   split at h
   ·rename_i pl hpl
    split at h
    ·rename_i l hl
     injection h with h
     subst h
     obtain⟨h1,h2,_⟩:=zX3 hR hl hz3 hz4
     refine⟨?_,by rw[XV.ok,XV.okL_iff];exact h2⟩
     unfold bplaces at hpl
     cases hu:P.underlying t with
     | none=>rw[hu] at hpl;cases hpl
     | some dsc=>
      rw[hu] at hpl
      cases dsc <;> simp only[reduceCtorEq] at hpl
      rename_i fs
      have hm:(fs.mapM (m:=Sem) fun f=>do pure (f.offset,←sizeOf f.type)).run P w = .ok pl.toArray w:=by
       rw[Array.mapM_eq_mapM_toList,Sem.run_map,zC5 hpl];rfl
      have h1':Instr.fill (fun x=>pl.toArray[x]?) zv.cells (ps.map fun(i,x)=>(i,a.eval x)).toList=some (l.map (XV.den ρ γ)).toArray:=by
       rw[hz2,hps,←h1]
       simp only[List.getElem?_toArray]
      simp only[execOp,ho,Instr.build,Sem.run_bind,hz1,zK hu,Result.andThen_ok,hm,h1',Sem.run_pure,XV.den,XV.denL_eq]
    ·cases h
   ·split at h
    ·rename_i n e sz ha
     obtain⟨hu,hs⟩:=zN2 ha
     split at h
     ·rename_i l hl
      injection h with h
      subst h
      obtain⟨h1,h2,_⟩:=zX3 hR hl hz3 hz4
      refine⟨?_,by rw[XV.ok,XV.okL_iff];exact h2⟩
      have h1':Instr.fill (fun i=>some (i*sz,sz)) zv.cells (ps.map fun(i,x)=>(i,a.eval x)).toList=some (l.map (XV.den ρ γ)).toArray:=by
       rw[hz2,hps,←h1]
      simp only[execOp,ho,Instr.build,Sem.run_bind,hz1,zK hu,zN1 hs,Result.andThen_ok,h1',Sem.run_pure,XV.den,XV.denL_eq]
     ·cases h
    ·cases h
  ·cases h
 ·rename_i f first caps ho
  cases hf:first.isEmpty with
  | false=>rw[hf] at h;cases h
  | true=>
   rw[hf] at h
   simp only[cond_true] at h
   split at h
   ·rename_i l hl
    injection h with h
    subst h
    obtain⟨h1,h2⟩:=hR.evL hl
    refine⟨?_,h2⟩
    have hf':first=#[]:=by simpa using hf
    subst hf'
    have hc:caps.map a.eval=(XV.denL ρ γ l).toArray:=by rw[←h1,←Array.toList_map]
    simp only[execOp,ho,Instr.makeFunc,Sem.run_bind,Sem.run_pure,Result.andThen_ok,hc,XV.den,List.map_toArray,List.map_nil]
   ·cases h
 ·rename_i x i ho
  split at h
  ·rename_i l hx
   obtain⟨h1,h2⟩:=hR.evn hx
   rw[XV.ok,XV.okL_iff] at h2
   simp only[XV.den,XV.denL_eq] at h1
   exact⟨by simp[execOp,ho,h1,Instr.extract,h],h2 v (List.mem_of_getElem? h)⟩
  ·cases h
 ·rename_i x ho
  obtain⟨h1,h2⟩:=hR.evn h
  exact⟨by simp[execOp,ho,h1],h2⟩
 ·rename_i x ho
  obtain⟨h1,h2⟩:=hR.evn h
  exact⟨by simp[execOp,ho,h1],h2⟩
 ·rename_i c x y ho
  split at h
  ·rename_i hc
   obtain⟨h1,h2⟩:=hR.evn h
   exact⟨by simp[execOp,ho,h1,hR.evp hc,asBool],h2⟩
  ·rename_i hc
   obtain⟨h1,h2⟩:=hR.evn h
   exact⟨by simp[execOp,ho,h1,hR.evp hc,asBool],h2⟩
  ·cases h
 ·cases h
end
end
section
open Go Go.RowKit
set_option maxRecDepth 100000
def nowIx (d:TypeDesc) (k:Value):List Value→Nat→Option (Option Nat)
 | [],_=>some none
 | k' :: ks,i=>match Instr.sameNow d k k' with
  | some true=>some (some i)
  | some false=>nowIx d k ks (i+1)
  | none=>none
def askIx (P:Program) (kt:TypeId) (k:Value):List Value→Nat→Option (Option Nat)
 | [],_=>some none
 | k' :: ks,i=>match semPure P (Op.equal kt k k') with
  | some true=>some (some i)
  | some false=>askIx P kt k ks (i+1)
  | none=>none
def xfindIx (P:Program) (kt:TypeId) (k:Value) (ks:List Value):Option (Option Nat):=match P.underlying kt with
 | none=>none
 | some d=>match nowIx d k ks 0 with
  | some r=>some r
  | none=>askIx P kt k ks 0
section
variable {P:Program} {N:Nat} {w0:XEnv} {ρ γ:Nat→Nat} {F:XFr} {H:XHp} {a:Act} {w:World} {o:Oper}
theorem zn12 {d:TypeDesc} {k:Value}:∀{ms:List MapEntry} {i:Nat} {r:Option (Option Nat)},nowIx d k (ms.map (·.key)) i=r→(r=none→Instr.findNow d k ms i=none)∧(r=some none→Instr.findNow d k ms i=some none)∧∀j,r=some (some j)→∃e,i≤j∧ms[j - i]?=some e∧Instr.findNow d k ms i=some (some (j,e.val))
 | [],i,r,h=>by
  subst h
  exact⟨fun h=>(by cases h),fun _=>rfl,fun j h=>(by cases h)⟩
 | e :: ms,i,r,h=>by
  rw[List.map_cons,nowIx] at h
  rw[Instr.findNow]
  cases hs:Instr.sameNow d k e.key with
  | none=>rw[hs] at h;subst h;exact⟨fun _=>rfl,fun h=>(by cases h),fun j h=>(by cases h)⟩
  | some b=>
   rw[hs] at h
   cases b with
   | true=>
    subst h
    refine⟨fun h=>(by cases h),fun h=>(by cases h),fun j h=>?_⟩
    simp only[Option.some.injEq] at h
    subst h
    exact⟨e,Nat.le_refl _,by simp,rfl⟩
   | false=>
    obtain⟨h1,h2,h3⟩:=zn12 h
    refine⟨h1,h2,fun j hj=>?_⟩
    obtain⟨e',g1,g2,g3⟩:=h3 j hj
    exact⟨e',by omega,by rw[show j - i=(j - (i+1))+1 by omega];simpa using g2,g3⟩
theorem zL14 {kt:TypeId} {k:Value}:∀{ms:List MapEntry} {i:Nat} {r:Option Nat},askIx P kt k (ms.map (·.key)) i=some r→(r=none→(Instr.findAsking kt k ms i).run P w = .ok none w)∧∀j,r=some j→∃e,i≤j∧ms[j - i]?=some e∧(Instr.findAsking kt k ms i).run P w = .ok (some (j,e.val)) w
 | [],i,r,h=>by
  cases h
  exact⟨fun _=>rfl,fun j h=>(by cases h)⟩
 | e :: ms,i,r,h=>by
  rw[List.map_cons,askIx] at h
  rw[Instr.findAsking]
  cases hs:semPure P (Op.equal kt k e.key) with
  | none=>rw[hs] at h;cases h
  | some b=>
   rw[hs] at h
   have hrun:=zM w hs
   simp only[Sem.run_bind,hrun,Result.andThen_ok]
   cases b with
   | true=>
    cases h
    refine⟨fun h=>(by cases h),fun j h=>?_⟩
    simp only[Option.some.injEq] at h
    subst h
    exact⟨e,Nat.le_refl _,by simp,rfl⟩
   | false=>
    obtain⟨h2,h3⟩:=zL14 h
    refine⟨h2,fun j hj=>?_⟩
    obtain⟨e',g1,g2,g3⟩:=h3 j hj
    exact⟨e',by omega,by rw[show j - i=(j - (i+1))+1 by omega];simpa using g2,g3⟩
theorem zq7 {kt:TypeId} {k:Value} {ms:List MapEntry} {r:Option Nat} (h:xfindIx P kt k (ms.map (·.key))=some r):(r=none→(Instr.findKey kt k ms).run P w = .ok none w)∧∀j,r=some j→∃e,ms[j]?=some e∧(Instr.findKey kt k ms).run P w = .ok (some (j,e.val)) w:=by
 unfold xfindIx at h
 split at h
 ·cases h
 ·rename_i d hd
  unfold Instr.findKey
  simp only[Sem.run_bind,zK hd,Result.andThen_ok]
  cases hn:nowIx d k (ms.map (·.key)) 0 with
  | some r'=>
   rw[hn] at h
   cases h
   obtain⟨_,h2,h3⟩:=zn12 hn
   refine⟨fun hr=>?_,fun j hj=>?_⟩
   ·subst hr;rw[h2 rfl];rfl
   ·subst hj
    obtain⟨e,_,g2,g3⟩:=h3 j rfl
    exact⟨e,g2,by rw[g3];rfl⟩
  | none=>
   rw[hn] at h
   obtain⟨h1,_,_⟩:=zn12 hn
   rw[h1 rfl]
   obtain⟨h2,h3⟩:=zL14 (w:=w) h
   refine⟨h2,fun j hj=>?_⟩
   obtain⟨e,_,g2,g3⟩:=h3 j hj
   exact⟨e,g2,g3⟩
theorem zc9 {es:List (Value × XV)} {ms:Array MapEntry} (h:ms.toList.map (fun m=>(m.key,m.val))=es.map fun p=>(p.1,p.2.den ρ γ)):ms.toList.map (·.key)=es.map Prod.fst∧ms.size=es.length∧∀(j:Nat) (e:MapEntry) (p:Value × XV),ms.toList[j]?=some e→es[j]?=some p→e.key=p.1∧e.val=p.2.den ρ γ:=by
 refine⟨?_,by have:=congrArg List.length h;simpa using this,fun j e p he hp=>?_⟩
 ·have:=congrArg (List.map Prod.fst) h
  simpa [List.map_map,Function.comp_def] using this
 ·have:=congrArg (fun l:List (Value × Value)=>l[j]?) h
  simp only[List.getElem?_map,he,hp,Option.map_some,Option.some.injEq,Prod.mk.injEq] at this
  exact this
theorem zv2 {b:Nat} {ms:Array MapEntry} {ck:Nat} (h:w.heap[b]?=some (.map ms ck)):(getObj b).run P w = .ok (.map ms ck) w:=by
 unfold getObj
 simp[Sem.run,h]
def xlookR (ok:Bool) (v:XV) (is:Bool):XV:=match ok with
 | true=>.t [v,.v (.bool is)]
 | false=>v
theorem zb6 (ok:Bool) (v:XV) (is:Bool):(xlookR ok v is).den ρ γ=if ok then .tuple #[v.den ρ γ,.bool is] else v.den ρ γ:=by
 cases ok <;> simp[xlookR,XV.den,XV.denL]
theorem zE7 {A:Nat→Nat→Prop} {ok:Bool} {v:XV} {is:Bool} (h:v.ok A):(xlookR ok v is).ok A:=by
 cases ok
 ·exact h
 ·exact⟨h,trivial,trivial⟩
def xlook (P:Program) (F:XFr) (H:XHp) (op:Op):Option XV:=match op with
 | .lookup t x ix ok=>(match P.underlying t,xevp F ix with
  | some (.map kt et),some k=>(match xev F x with
   | some (.m b)=>(match H.get b with
    | some (.map es _ _)=>(match semPure P (Instr.checkKey es.isEmpty 10000 kt k),xfindIx P kt k (es.map Prod.fst) with
     | some _,some (some j)=>(match es[j]? with
      | some p=>some (xlookR ok p.2 true)
      | none=>none)
     | some _,some none=>(match (P.info? et).bind (·.zero) with
      | some z=>some (xlookR ok (xnorm z) false)
      | none=>none)
     | _,_=>none)
    | _=>none)
   | _=>none)
  | _,_=>none)
 | .call ⟨.builtin .len,⟨[x]⟩,⟨[t]⟩⟩=>(match xev F x with
  | some (.sl _ _ n _)=>(match elemSz P t with
   | some _=>some (.v (.int .i64 n))
   | none=>none)
  | some (.sg _ _ n _)=>(match elemSz P t with
   | some _=>some (.v (.int .i64 n))
   | none=>none)
  | some (.se _ _ _ _)=>(match elemSz P t with
   | some _=>some (.v (.int .i64 (0:Nat)))
   | none=>none)
  | some (.m b)=>(match P.underlying t,H.get b with
   | some (.map _ _),some (.map es _ _)=>some (.v (.int .i64 es.length))
   | _,_=>none)
  | _=>none)
 | .call ⟨.builtin .cap,⟨[x]⟩,⟨[t]⟩⟩=>(match xev F x with
  | some (.sl _ _ _ c)=>(match elemSz P t with
   | some _=>some (.v (.int .i64 c))
   | none=>none)
  | _=>none)
 | .binOp .eql t x y _=>(match xevn F x,xevn F y with
  | some u,some v=>(match xisnil u v,P.underlying t with
   | some f,some d=>(match f d with
    | some false=>some (.v (.bool false))
    | _=>none)
   | _,_=>none)
  | _,_=>none)
 | .binOp .neq t x y _=>(match xevn F x,xevn F y with
  | some u,some v=>(match xisnil u v,P.underlying t with
   | some f,some d=>(match f d with
    | some false=>some (.v (.bool true))
    | _=>none)
   | _,_=>none)
  | _,_=>none)
 | .load t x=>(match xev F x with
  | some (.p b j)=>xload P t H b j
  | _=>none)
 | _=>none
theorem zF7 {u v:XV} {f:TypeDesc→Option Bool} {t:TypeId} {d:TypeDesc} (h:xisnil u v=some f) (hd:P.underlying t=some d) (hf:f d=some false):(Op.equal t (u.den ρ γ) (v.den ρ γ)).run P w = .ok false w∧(∀op x y,(eqGuard op t x y (u.den ρ γ) (v.den ρ γ)).run P w = .ok () w)∧(∀(op:BinOp) (r:Result Value),(op = .eql∧r = .ok (.bool false) w)∨(op = .neq∧r = .ok (.bool true) w)→(binOp op t (u.den ρ γ) (v.den ρ γ)).run P w=r):=by
 have he:(Op.equal t (u.den ρ γ) (v.den ρ γ)).run P w = .ok false w:=by
  unfold Op.equal Op.maxDepth
  rw[show 10000=9999+1 from rfl,Op.equalIn]
  simp only[Sem.run_bind,zK hd,Result.andThen_ok]
  generalize 9999=q
  unfold xisnil at h
  split at h
  all_goals first
   | (cases h;done)
   | (simp only[Option.some.injEq] at h;subst h;cases d <;> first|(cases hf;done)|(simp only[XV.den];rfl))
 refine⟨he,fun op x y=>?_,fun op r hr=>?_⟩
 ·unfold xisnil at h
  split at h
  all_goals first
   | (cases h;done)
   | (unfold eqGuard;simp only[XV.den];cases op <;> rfl)
 ·have hb:(do pure (.bool (←Op.equal t (u.den ρ γ) (v.den ρ γ))):Sem Value).run P w = .ok (.bool false) w:=by simp only[Sem.run_bind,he,Result.andThen_ok,Sem.run_pure]
  have hb2:(do pure (.bool (!(←Op.equal t (u.den ρ γ) (v.den ρ γ)))):Sem Value).run P w = .ok (.bool true) w:=by simp only[Sem.run_bind,he,Result.andThen_ok,Sem.run_pure,Bool.not_false]
  unfold xisnil at h
  split at h
  all_goals first
   | (cases h;done)
   | (rcases hr with⟨rfl,rfl⟩|⟨rfl,rfl⟩
      ·exact hb
      ·exact hb2)
theorem zS4 {v:XV} (h:xlook P F H o.op=some v) (hR:XR N w0 ρ γ F H a w):(execOp a.eval o).run P w = .ok (.value (v.den ρ γ)) w∧v.ok (H.has γ):=by
 unfold xlook at h
 split at h
 ·rename_i t x ix ok ho
  split at h
  ·rename_i kt et k hu hk
   split at h
   ·rename_i b hx
    split at h
    ·rename_i es bs ck hb
     obtain⟨g1,ms,g2,g3,_⟩:=hR.hp.bl b _ hb
     obtain⟨m1,m2,m3⟩:=zc9 g3
     obtain⟨h1,_⟩:=hR.ev hx
     simp only[XV.den] at h1
     have hem:ms.isEmpty=es.isEmpty:=by
      cases es <;> simp[Array.isEmpty,m2]
     split at h
     ·rename_i u j hck hf
      have hckr:=zM w hck
      rw[←m1] at hf
      obtain⟨_,f2⟩:=zq7 (w:=w) hf
      obtain⟨e,e1,e2⟩:=f2 j rfl
      split at h
      ·rename_i p hp
       injection h with h
       subst h
       have hev:=(m3 j e p e1 hp).2
       refine⟨?_,zE7 (g1 p (List.mem_of_getElem? hp))⟩
       simp only[execOp,ho,h1,hR.evp hk,Instr.lookup,Sem.run_bind,zK hu,Result.andThen_ok,zv2 g2,Sem.run_pure,hem,hckr,e2,hev,zb6]
      ·cases h
     ·rename_i u hck hf
      have hckr:=zM w hck
      rw[←m1] at hf
      obtain⟨f1,_⟩:=zq7 (w:=w) hf
      split at h
      ·rename_i z hz
       injection h with h
       subst h
       have hzr:(zeroValue et).run P w = .ok z w:=by
        unfold zeroValue typeInfo
        cases hi:P.info? et with
        | none=>rw[hi] at hz;cases hz
        | some i=>rw[hi] at hz;simp only[Option.bind_some] at hz;simp[hi,hz]
       refine⟨?_,zE7 (zq2 _ _)⟩
       simp only[execOp,ho,h1,hR.evp hk,Instr.lookup,Sem.run_bind,zK hu,Result.andThen_ok,zv2 g2,Sem.run_pure,hem,hckr,f1,hzr,zb6,zP1]
      ·cases h
     ·cases h
    ·cases h
   ·cases h
  ·cases h
 ·rename_i x t ho
  split at h
  ·rename_i b k n c hx
   split at h
   ·rename_i q he
    injection h with h
    subst h
    have h1:=(hR.ev hx).1
    simp only[XV.den] at h1
    exact⟨by simp[execOp,ho,resolve,invoke,builtin,h1,XV.den,zq4 (zw (e:=q.1) (sz:=q.2) he).1],trivial⟩
   ·cases h
  ·rename_i b k n c hx
   split at h
   ·rename_i q he
    injection h with h
    subst h
    have h1:=(hR.ev hx).1
    simp only[XV.den] at h1
    exact⟨by simp[execOp,ho,resolve,invoke,builtin,h1,XV.den,zq4 (zw (e:=q.1) (sz:=q.2) he).1],trivial⟩
   ·cases h
  ·rename_i b k n c hx
   split at h
   ·rename_i q he
    injection h with h
    subst h
    have h1:=(hR.ev hx).1
    simp only[XV.den] at h1
    exact⟨by simp[execOp,ho,resolve,invoke,builtin,h1,XV.den,zq4 (zw (e:=q.1) (sz:=q.2) he).1],trivial⟩
   ·cases h
  ·rename_i b hx
   split at h
   ·rename_i kt et es bs ck hu hb
    injection h with h
    subst h
    obtain⟨g1,ms,g2,g3,_⟩:=hR.hp.bl b _ hb
    obtain⟨m1,m2,m3⟩:=zc9 g3
    have h1:=(hR.ev hx).1
    simp only[XV.den] at h1
    refine⟨?_,trivial⟩
    simp[execOp,ho,resolve,invoke,builtin,h1,XV.den,Builtin.len_,zK hu,zv2 g2,m2,goInt]
   ·cases h
  ·cases h
 ·rename_i x t ho
  split at h
  ·rename_i b k n c hx
   split at h
   ·rename_i q he
    injection h with h
    subst h
    have h1:=(hR.ev hx).1
    simp only[XV.den] at h1
    exact⟨by simp[execOp,ho,resolve,invoke,builtin,h1,XV.den,Builtin.cap_,zK (zw (e:=q.1) (sz:=q.2) he).1,goInt],trivial⟩
   ·cases h
  ·cases h
 ·rename_i t x y yt ho
  split at h
  ·rename_i u v' hx hy
   split at h
   ·rename_i f d hf hd
    split at h
    ·rename_i hfd
     injection h with h
     subst h
     obtain⟨_,e2,e3⟩:=zF7 (ρ:=ρ) (γ:=γ) (w:=w) hf hd hfd
     refine⟨?_,trivial⟩
     simp only[execOp,ho,(hR.evn hx).1,(hR.evn hy).1,Sem.run_bind,e2,Result.andThen_ok,e3 .eql _ (.inl ⟨rfl,rfl⟩),Sem.run_pure,XV.den]
    ·cases h
   ·cases h
  ·cases h
 ·rename_i t x y yt ho
  split at h
  ·rename_i u v' hx hy
   split at h
   ·rename_i f d hf hd
    split at h
    ·rename_i hfd
     injection h with h
     subst h
     obtain⟨_,e2,e3⟩:=zF7 (ρ:=ρ) (γ:=γ) (w:=w) hf hd hfd
     refine⟨?_,trivial⟩
     simp only[execOp,ho,(hR.evn hx).1,(hR.evn hy).1,Sem.run_bind,e2,Result.andThen_ok,e3 .neq _ (.inr ⟨rfl,rfl⟩),Sem.run_pure,XV.den]
    ·cases h
   ·cases h
  ·cases h
 ·rename_i t x ho
  split at h
  ·rename_i b j hx
   obtain⟨h1,h2⟩:=hR.ev hx
   obtain⟨h3,h4⟩:=zB9 hR.hp h
   refine⟨?_,h4⟩
   simp only[XV.den] at h1
   simp only[execOp,ho,h1,Sem.run_bind,h3,Result.andThen_ok,Sem.run_pure]
  ·cases h
 ·cases h
theorem zp7 {b:Nat} {m:Option Nat} {s l:Nat} {se:Array Nat} (h:w.heap[b]?=some (.mapIter m s se l)):(getObj b).run P w = .ok (.mapIter m s se l) w:=by
 unfold getObj
 simp[Sem.run,h]
def xentry (F:XFr) (H:XHp) (op:Op):Option XV:=match op with
 | .entry it=>(match xev F it with
  | some (.p b 0)=>(match H.get b with
   | some (.iter m _ [q] last)=>(match H.get m with
    | some (.map [p] [q'] ck)=>bif Nat.beq q q' && Nat.beq ck last then some (.t [xnorm p.1,p.2]) else none
    | _=>none)
   | _=>none)
  | _=>none)
 | _=>none
theorem zz11 {v:XV} (h:xentry F H o.op=some v) (hR:XR N w0 ρ γ F H a w):(execOp a.eval o).run P w = .ok (.value (v.den ρ γ)) w∧v.ok (H.has γ):=by
 unfold xentry at h
 split at h
 ·rename_i it ho
  split at h
  ·rename_i b hit
   split at h
   ·rename_i m since q last hb
    split at h
    ·rename_i p q' ck hm
     cases hc:(Nat.beq q q' && Nat.beq ck last) with
     | false=>rw[hc] at h;cases h
     | true=>
      rw[hc] at h
      injection h with h
      subst h
      simp only[Bool.and_eq_true] at hc
      obtain rfl:=Nat.eq_of_beq_eq_true hc.1
      obtain rfl:=Nat.eq_of_beq_eq_true hc.2
      obtain⟨q1,q2⟩:=hR.hp.bl b _ hb
      have q2':w.heap[ρ b]?=some (.mapIter (some (ρ m)) since #[q] ck):=q2
      obtain⟨g1,ms,g2,g3,g4⟩:=hR.hp.bl m _ hm
      obtain⟨h1,h2⟩:=hR.ev hit
      simp only[XV.den] at h1
      obtain⟨e,he⟩:∃e,ms=#[e]:=by
       have hl:ms.toList.length=1:=by have:=congrArg List.length g4;simpa using this
       match hms:ms.toList,hl with
       | [e],_=>exact⟨e,by rw[←Array.toArray_toList (xs:=ms),hms]⟩
      subst he
      simp only[List.map_cons,List.map_nil,List.cons.injEq,Prod.mk.injEq,and_true] at g3 g4
      obtain⟨k1,k2⟩:=g3
      have hp2:p.2.ok (H.has γ):=g1 p (by simp)
      refine⟨?_,zq2 _ _,hp2,trivial⟩
      simp only[execOp,ho,h1,Instr.entry,Sem.run_bind,zp7 q2',Result.andThen_ok,zv2 g2]
      simp[zv2 g2,g4,k1,k2,XV.den,XV.denL,zP1]
    ·cases h
   ·cases h
  ·cases h
 ·cases h
def xrd (P:Program) (F:XFr) (H:XHp) (o:Oper):Option XV:=match o.op with
 | .binOp op _ x y _=>(match xevp F x,xevp F y with
  | some (.int .i64 m),some (.int .i64 n)=>(match xint op m n with
   | some v=>some v
   | none=>(match xpure P F o.op with
    | some u=>some (xnorm u)
    | none=>none))
  | some _,some _=>(match xpure P F o.op with
   | some u=>some (xnorm u)
   | none=>none)
  | _,_=>xlook P F H o.op)
 | .move _=>xbuild P F o.op
 | .assign _=>xbuild P F o.op
 | .pick _ _ _=>xbuild P F o.op
 | .build _ _=>xbuild P F o.op
 | .makeFunc _ _ _=>xbuild P F o.op
 | .extract _ _=>xbuild P F o.op
 | .load _ _=>xlook P F H o.op
 | .entry _=>xentry F H o.op
 | .lookup _ _ _ _=>xlook P F H o.op
 | .field _ _ _=>xfield P F o.op
 | .fieldAddr _ _ _=>xaddr P F o.op
 | .indexAddr _ _ _=>xaddr P F o.op
 | .nilCheck _=>xaddr P F o.op
 | .index _ _ _=>(match xfield P F o.op with
  | some v=>some v
  | none=>(match xpure P F o.op with
   | some u=>some (xnorm u)
   | none=>none))
 | .slice _ _ _ _ _=>(match xslice P F o.op with
  | some v=>some v
  | none=>(match xpure P F o.op with
   | some u=>some (xnorm u)
   | none=>none))
 | .unOp _ _ _=>(match xpure P F o.op with
  | some u=>some (xnorm u)
  | none=>none)
 | .convert _ _ _=>(match xpure P F o.op with
  | some u=>some (xnorm u)
  | none=>none)
 | .call ⟨.builtin _,_,_⟩=>(match xlook P F H o.op with
  | some v=>some v
  | none=>(match xpure P F o.op with
   | some u=>some (xnorm u)
   | none=>none))
 | _=>none
theorem zy11 {v:XV} (h:xrd P F H o=some v) (hR:XR N w0 ρ γ F H a w):(execOp a.eval o).run P w = .ok (.value (v.den ρ γ)) w∧v.ok (H.has γ):=by
 have kp:∀{v:XV},(match xpure P F o.op with
     | some u=>some (xnorm u)
     | none=>none)=some v→(execOp a.eval o).run P w = .ok (.value (v.den ρ γ)) w∧v.ok (H.has γ):=fun {v} h=>by
  split at h
  ·rename_i u hu
   injection h with h
   subst h
   exact⟨by rw[zP1];exact zn13 hu hR,zq2 _ _⟩
  ·cases h
 unfold xrd at h
 split at h
 ·rename_i op t x y yt ho
  split at h
  ·rename_i m n hx hy
   split at h
   ·rename_i v' hv
    injection h with h
    subst h
    exact zQ14 hv ho (hR.evp hx) (hR.evp hy)
   ·exact kp h
  ·exact kp h
  ·exact zS4 h hR
 ·exact zx2 h hR
 ·exact zx2 h hR
 ·exact zx2 h hR
 ·exact zx2 h hR
 ·exact zx2 h hR
 ·exact zx2 h hR
 ·exact zS4 h hR
 ·exact zz11 h hR
 ·exact zS4 h hR
 ·exact zG7 h hR
 ·exact zF6 h hR
 ·exact zF6 h hR
 ·exact zF6 h hR
 ·split at h
  ·rename_i v' hv;injection h with h;subst h;exact zG7 hv hR
  ·exact kp h
 ·split at h
  ·rename_i v' hv;injection h with h;subst h;exact zw11 hv hR
  ·exact kp h
 ·exact kp h
 ·exact kp h
 ·split at h
  ·rename_i v' hv;injection h with h;subst h;exact zS4 hv hR
  ·exact kp h
 ·cases h
end
end
end Go.Proofs.YtophoepbedlhjaaGreatDoor
