/- Closed calls: struct literals, lookups in maps, lengths, comparisons with nil; all readers. Conditions: none. -/
import Derived.Test.YtophoepbedlhjaaGreatDoorQbn
set_option linter.unusedSimpArgs false
set_option linter.unusedVariables false
namespace Go.Proofs.YtophoepbedlhjaaGreatDoor
section
open Go Go.RowKit
set_option maxRecDepth 100000
def xint (op:BinOp) (m n:Int):Option XV:=match op with
 | .add=>some (.v (.int .i64 (wrap64 (m+n))))
 | .sub=>some (.v (.int .i64 (wrap64 (m - n))))
 | .mul=>some (.v (.int .i64 (wrap64 (m*n))))
 | .quo=>if n=0 then none else some (.v (.int .i64 (wrap64 (m.tdiv n))))
 | .rem=>if n=0 then none else some (.v (.int .i64 (m.tmod n)))
 | .lss=>some (.v (.bool (decide (m < n))))
 | .leq=>some (.v (.bool (decide (m≤n))))
 | .gtr=>some (.v (.bool (decide (n < m))))
 | .geq=>some (.v (.bool (decide (n≤m))))
 | .eql=>some (.v (.bool (decide (m=n))))
 | .neq=>some (.v (.bool (decide (m≠n))))
 | _=>none
def xisnil (x y:XV):Option (TypeDesc→Option Bool):=match x,y with
 | .p _ _,.v (.pointer none)=>some fun d=>match d with | .pointer _=>some false|_=>none
 | .sl _ _ _ _,.v (.slice none _ _)=>some fun d=>match d with | .slice _=>some false|_=>none
 | .sg _ _ _ _,.v (.slice none _ _)=>some fun d=>match d with | .slice _=>some false|_=>none
 | .m _,.v (.map none)=>some fun d=>match d with | .map _ _=>some false|_=>none
 | .f _ _,.v .nilFunc=>some fun d=>match d with | .func _ _ _=>some false|_=>none
 | _,_=>none
section
variable {P:Program} {N:Nat} {w0:XEnv} {ρ γ:Nat→Nat} {F:XFr} {H:XHp} {a:Act} {w:World} {o:Oper}
theorem xint_ok {op:BinOp} {t yt:TypeId} {x y:Operand} {m n:Int} {v:XV} (h:xint op m n=some v) (ho:o.op = .binOp op t x y yt) (hx:a.eval x = .int .i64 m) (hy:a.eval y = .int .i64 n):(execOp a.eval o).run P w = .ok (.value (v.den ρ γ)) w∧v.ok (H.has γ):=by
 have hrun:∀r:Value,(do eqGuard op t x y (.int .i64 m) (.int .i64 n);binOp op t (.int .i64 m) (.int .i64 n):Sem Value).run P w = .ok r w→(execOp a.eval o).run P w = .ok (.value r) w:=fun r hr=>by
  simp only[execOp,ho,hx,hy]
  rw[Sem.run_bind,hr]
  rfl
 cases op <;> simp only[xint] at h
 all_goals first
  | (split at h
     ·cases h
     ·rename_i h0
      injection h with h;subst h;refine⟨hrun _ ?_,trivial⟩;simp[XV.den,eqGuard,binOp,Op.intDiv,h0,IntKind.wrap_i64,wrap64])
  | (injection h with h;subst h;refine⟨hrun _ ?_,trivial⟩;first|(simp[XV.den,eqGuard,binOp,Op.intArith,Op.intCmp,IntKind.wrap_i64,wrap64];done)|(simp[XV.den,eqGuard,binOp,Op.intArith,Op.intCmp,IntKind.wrap_i64,wrap64];rfl))
  | cases h
theorem zD {s:Sem Value} {u:Value} (h:semPure P s=some u):((do pure (.value (←s)):Sem Next)).run P w = .ok (.value u) w:=by
 have:=zG w h
 show (Sem.bind s fun v=>.pure (Next.value v)).run P w=_
 rw[show Sem.bind s (fun v=>.pure (Next.value v))=(s >>= fun v=>pure (Next.value v)) from rfl,Sem.run_bind,this]
 rfl
def xpure (P:Program) (F:XFr) (op:Op):Option Value:=match op with
 | .binOp b t x y _=>(match xevp F x,xevp F y with
  | some u,some v=>semPure P (do eqGuard b t x y u v;binOp b t u v)
  | _,_=>none)
 | .unOp b _ x=>(match xevp F x with
  | some u=>semPure P (Op.unary b u)
  | none=>none)
 | .convert s d x=>(match xevp F x with
  | some u=>semPure P (convert s d u)
  | none=>none)
 | .index t x i=>(match xevp F x,xevp F i with
  | some u,some v=>semPure P (Instr.index t u v)
  | _,_=>none)
 | .slice t x lo hi mx=>(match xevp F x,lo.map (xevp F),hi.map (xevp F),mx with
  | some u,none,none,none=>semPure P (Instr.sliceAt t u none none none)
  | some u,some (some l),none,none=>semPure P (Instr.sliceAt t u (some l) none none)
  | some u,none,some (some h),none=>semPure P (Instr.sliceAt t u none (some h) none)
  | some u,some (some l),some (some h),none=>semPure P (Instr.sliceAt t u (some l) (some h) none)
  | _,_,_,_=>none)
 | .call ⟨.builtin .len,⟨[x]⟩,ts⟩=>(match xevp F x with
  | some u=>semPure P (Builtin.len_ ts 0 #[u])
  | none=>none)
 | .call ⟨.builtin .min,⟨[x,y]⟩,ts⟩=>(match xevp F x,xevp F y with
  | some u,some v=>semPure P (Builtin.min_ ts 0 #[u,v])
  | _,_=>none)
 | .call ⟨.builtin .max,⟨[x,y]⟩,ts⟩=>(match xevp F x,xevp F y with
  | some u,some v=>semPure P (Builtin.max_ ts 0 #[u,v])
  | _,_=>none)
 | _=>none
theorem xpure_ok {u:Value} (h:xpure P F o.op=some u) (hR:XR N w0 ρ γ F H a w):(execOp a.eval o).run P w = .ok (.value u) w:=by
 unfold xpure at h
 split at h
 ·rename_i b t x y yt ho
  split at h
  ·rename_i u v hx hy
   have:=zD (w:=w) h
   simpa only[execOp,ho,hR.evp hx,hR.evp hy] using this
  ·cases h
 ·rename_i b t x ho
  split at h
  ·rename_i u hx
   have:=zD (w:=w) h
   simpa only[execOp,ho,hR.evp hx] using this
  ·cases h
 ·rename_i s d x ho
  split at h
  ·rename_i u hx
   have:=zD (w:=w) h
   simpa only[execOp,ho,hR.evp hx] using this
  ·cases h
 ·rename_i t x i ho
  split at h
  ·rename_i u v hx hi
   have:=zD (w:=w) h
   simpa only[execOp,ho,hR.evp hx,hR.evp hi] using this
  ·cases h
 ·rename_i t x lo hi mx ho
  split at h
  ·rename_i u hx h1 h2
   have:=zD (w:=w) h
   simp only[Option.map_eq_none_iff] at h1 h2
   simpa only[execOp,ho,hR.evp hx,h1,h2,Option.map_none] using this
  ·rename_i u l hx h1 h2
   have:=zD (w:=w) h
   simp only[Option.map_eq_none_iff,Option.map_eq_some_iff] at h1 h2
   obtain⟨l',h1,h3⟩:=h1
   simpa only[execOp,ho,hR.evp hx,h1,h2,Option.map_none,Option.map_some,hR.evp h3] using this
  ·rename_i u l hx h1 h2
   have:=zD (w:=w) h
   simp only[Option.map_eq_none_iff,Option.map_eq_some_iff] at h1 h2
   obtain⟨l',h2,h3⟩:=h2
   simpa only[execOp,ho,hR.evp hx,h1,h2,Option.map_none,Option.map_some,hR.evp h3] using this
  ·rename_i u l hi hx h1 h2
   have:=zD (w:=w) h
   simp only[Option.map_eq_some_iff] at h1 h2
   obtain⟨l',h1,h3⟩:=h1
   obtain⟨l2,h2,h4⟩:=h2
   simpa only[execOp,ho,hR.evp hx,h1,h2,Option.map_none,Option.map_some,hR.evp h3,hR.evp h4] using this
  ·cases h
 ·rename_i x ts ho
  split at h
  ·rename_i u hx
   have:=zD (w:=w) h
   simpa [execOp,ho,resolve,invoke,builtin,hR.evp hx,Builtin.len_] using this
  ·cases h
 ·rename_i x y ts ho
  split at h
  ·rename_i u v hx hy
   have:=zD (w:=w) h
   simpa [execOp,ho,resolve,invoke,builtin,hR.evp hx,hR.evp hy,Builtin.min_] using this
  ·cases h
 ·rename_i x y ts ho
  split at h
  ·rename_i u v hx hy
   have:=zD (w:=w) h
   simpa [execOp,ho,resolve,invoke,builtin,hR.evp hx,hR.evp hy,Builtin.max_] using this
  ·cases h
 ·cases h
end
end
section
open Go Go.RowKit
set_option maxRecDepth 100000
section
variable {P:Program} {N:Nat} {w0:XEnv} {ρ γ:Nat→Nat} {F:XFr} {H:XHp} {a:Act} {w:World} {o:Oper}
theorem zC {t:TypeId} {d:TypeDesc} (h:P.underlying t=some d):(underlying t).run P w = .ok d w:=by unfold underlying;simp[h]
theorem zx1 {t:TypeId} {n:Nat} (h:(P.info? t).map (·.size)=some n):(sizeOf t).run P w = .ok n w:=by
 unfold sizeOf typeInfo
 cases hi:P.info? t with
 | none=>rw[hi] at h;cases h
 | some i=>rw[hi] at h;simp at h;simp[hi,h]
def xpart (P:Program) (t:TypeId) (l:List XV) (off:Nat):Option XV:=match ldk P t with
 | some none=>l[off]?
 | some (some n)=>some (.a ((l.drop off).take n))
 | none=>none
theorem zw8 {t:TypeId} {l:List XV} {off:Nat} {v:XV} (h:xpart P t l off=some v) (hl:XV.okL (H.has γ) l):(part t (XV.denL ρ γ l).toArray off).run P w = .ok (v.den ρ γ) w∧v.ok (H.has γ):=by
 rw[XV.okL_iff] at hl
 rw[XV.denL_eq]
 unfold xpart at h
 split at h
 ·rename_i hk
  refine⟨?_,hl v (List.mem_of_getElem? h)⟩
  unfold part
  simp[(zQ4 (w:=w) hk).1,h]
 ·rename_i n hk
  injection h with h
  subst h
  refine⟨?_, ?_⟩
  ·unfold part
   simp only[Sem.run_bind,(zV1 (w:=w) hk).1,Result.andThen_ok,if_true,(zV1 (w:=w) hk).2,Sem.run_pure,XV.den,XV.denL_eq]
   congr 2
   simp[List.map_take,List.map_drop,List.extract_eq_take_drop]
  ·rw[XV.ok,XV.okL_iff]
   intro x hx
   exact hl x (List.mem_of_mem_drop (List.mem_of_mem_take hx))
 ·cases h
def xarrSz (P:Program) (t:TypeId):Option (Nat × TypeId × Nat):=match P.underlying t with
 | some (.array n e)=>(match (P.info? e).map (·.size) with
  | some s=>some (n,e,s)
  | none=>none)
 | _=>none
theorem zQ2 {t e:TypeId} {n s:Nat} (h:xarrSz P t=some (n,e,s)):P.underlying t=some (.array n e)∧(P.info? e).map (·.size)=some s:=by
 unfold xarrSz at h
 split at h
 ·rename_i n' e' hu
  split at h
  ·rename_i s' hs
   simp only[Option.some.injEq,Prod.mk.injEq] at h
   obtain⟨rfl,rfl,rfl⟩:=h
   exact⟨hu,hs⟩
  ·cases h
 ·cases h
theorem zA3 {t e:TypeId} {s:Nat} (h:elemSz P t=some (e,s)):P.underlying t=some (.slice e)∧(P.info? e).map (·.size)=some s:=by
 obtain⟨h1,i,h2,h3⟩:=zq h
 exact⟨h1,by rw[h2];simp[h3]⟩
theorem zU5 (B off n:Nat):(⟨B,off,none⟩:Addr).add n=⟨B,off+n,none⟩:=by
 unfold Addr.add
 split
 ·rename_i h;subst h;rfl
 ·rfl
def xfield (P:Program) (F:XFr) (op:Op):Option XV:=match op with
 | .field t x f=>(match xevn F x,P.underlying t with
  | some (.a l),some (.struct fs)=>(match fs[f]? with
   | some g=>xpart P g.type l g.offset
   | none=>none)
  | _,_=>none)
 | .index t x i=>(match xevn F x,xevp F i,xarrSz P t with
  | some (.a l),some (.int _ (.ofNat k)),some (n,e,s)=>bif Nat.blt k n then xpart P e l (k*s) else none
  | _,_,_=>none)
 | _=>none
theorem zJ6 {v:XV} (h:xfield P F o.op=some v) (hR:XR N w0 ρ γ F H a w):(execOp a.eval o).run P w = .ok (.value (v.den ρ γ)) w∧v.ok (H.has γ):=by
 unfold xfield at h
 split at h
 ·rename_i t x f ho
  split at h
  ·rename_i l fs hx hu
   split at h
   ·rename_i g hg
    obtain⟨h1,h2⟩:=hR.evn hx
    obtain⟨h3,h4⟩:=zw8 (P:=P) (w:=w) (ρ:=ρ) h h2
    refine⟨?_,h4⟩
    simp only[execOp,ho,h1,XV.den,Instr.field,Sem.run_bind,zC hu,Result.andThen_ok,hg,asAgg,Sem.run_pure,h3]
   ·cases h
  ·cases h
 ·rename_i t x i ho
  split at h
  ·rename_i l kd k n e s hx hi ha
   obtain⟨hu,hs⟩:=zQ2 ha
   cases hb:Nat.blt k n with
   | false=>rw[hb] at h;cases h
   | true=>
    rw[hb] at h
    obtain⟨h1,h2⟩:=hR.evn hx
    obtain⟨h3,h4⟩:=zw8 (P:=P) (w:=w) (ρ:=ρ) h h2
    refine⟨?_,h4⟩
    rw[Nat.blt_eq] at hb
    simp only[execOp,ho,h1,XV.den,hR.evp hi,Instr.index,asIntOf,Sem.run_bind,Sem.run_pure,zC hu,Result.andThen_ok,zx1 hs]
    rw[if_pos ⟨by simp,by simpa using hb⟩]
    simp only[Sem.run_bind,zx1 hs,Result.andThen_ok,Int.ofNat_eq_natCast,Int.toNat_natCast,h3,Sem.run_pure]
  ·cases h
 ·cases h
def xaddr (P:Program) (F:XFr) (op:Op):Option XV:=match op with
 | .fieldAddr t x f=>(match xev F x with
  | some (.p b j)=>(match fieldOff P t f with
   | some off=>some (.p b (j+off))
   | none=>none)
  | _=>none)
 | .indexAddr t x ix=>(match xev F x,xevp F ix with
  | some (.sl b k n _),some (.int _ (.ofNat z))=>(match elemSz P t with
   | some (_,sz)=>bif Nat.blt z n then some (.p b (k+z*sz)) else none
   | none=>none)
  | some (.sg b k n _),some (.int _ (.ofNat z))=>(match elemSz P t with
   | some (_,sz)=>bif Nat.blt z n then some (.p b (k+z*sz)) else none
   | none=>none)
  | some (.p b j),some (.int _ (.ofNat z))=>(match xarrSz P t with
   | some (n,_,sz)=>bif Nat.blt z n then some (.p b (j+z*sz)) else none
   | none=>none)
  | _,_=>none)
 | .nilCheck x=>(match xev F x with
  | some (.p b j)=>some (.p b j)
  | some (.f fn cs)=>some (.f fn cs)
  | _=>none)
 | _=>none
theorem zY5 {v:XV} (h:xaddr P F o.op=some v) (hR:XR N w0 ρ γ F H a w):(execOp a.eval o).run P w = .ok (.value (v.den ρ γ)) w∧v.ok (H.has γ):=by
 unfold xaddr at h
 split at h
 ·rename_i t x f ho
  split at h
  ·rename_i b j hx
   split at h
   ·rename_i off hoff
    injection h with h
    subst h
    obtain⟨h1,h2⟩:=hR.ev hx
    refine⟨?_,h2⟩
    simp only[XV.den] at h1 ⊢
    simp only[execOp,ho,h1,Sem.run_bind,zh2 hoff,Result.andThen_ok,Sem.run_pure]
   ·cases h
  ·cases h
 ·rename_i t x ix ho
  split at h
  ·rename_i b k n c kd z hx hix
   split at h
   ·rename_i e sz he
    cases hb:Nat.blt z n with
    | false=>rw[hb] at h;cases h
    | true=>
     rw[hb] at h
     injection h with h
     subst h
     rw[Nat.blt_eq] at hb
     obtain⟨h1,h2⟩:=hR.ev hx
     refine⟨?_,h2⟩
     simp only[XV.den] at h1 ⊢
     simp only[execOp,ho,h1,hR.evp hix,Int.ofNat_eq_natCast,Sem.run_bind,zT2 he hb,Result.andThen_ok,Sem.run_pure]
   ·cases h
  ·rename_i b k n c kd z hx hix
   split at h
   ·rename_i e sz he
    cases hb:Nat.blt z n with
    | false=>rw[hb] at h;cases h
    | true=>
     rw[hb] at h
     injection h with h
     subst h
     rw[Nat.blt_eq] at hb
     obtain⟨h1,h2⟩:=hR.ev hx
     refine⟨?_,⟨h2.1,Nat.zero_le _⟩⟩
     simp only[XV.den] at h1 ⊢
     simp only[execOp,ho,h1,hR.evp hix,Int.ofNat_eq_natCast,Sem.run_bind,zT2 he hb,Result.andThen_ok,Sem.run_pure]
   ·cases h
  ·rename_i b j kd z hx hix
   split at h
   ·rename_i n e sz ha
    obtain⟨hu,hs⟩:=zQ2 ha
    cases hb:Nat.blt z n with
    | false=>rw[hb] at h;cases h
    | true=>
     rw[hb] at h
     injection h with h
     subst h
     rw[Nat.blt_eq] at hb
     obtain⟨h1,h2⟩:=hR.ev hx
     refine⟨?_,h2⟩
     simp only[XV.den] at h1 ⊢
     simp only[execOp,ho,h1,hR.evp hix,Instr.indexAt,asIntOf,Sem.run_bind,Sem.run_pure,zC hu,Result.andThen_ok,Instr.sureAddr]
     rw[if_pos ⟨by simp,by simpa using hb⟩]
     simp only[Sem.run_bind,zx1 hs,Result.andThen_ok,Int.ofNat_eq_natCast,Int.toNat_natCast,Sem.run_pure,zU5]
   ·cases h
  ·cases h
 ·rename_i x ho
  split at h
  ·rename_i b j hx
   injection h with h
   subst h
   obtain⟨h1,h2⟩:=hR.ev hx
   simp only[XV.den] at h1
   exact⟨by simp[execOp,ho,h1,XV.den],h2⟩
  ·rename_i f cs hx
   injection h with h
   subst h
   obtain⟨h1,h2⟩:=hR.ev hx
   simp only[XV.den] at h1
   exact⟨by simp[execOp,ho,h1,XV.den],h2⟩
  ·cases h
 ·cases h
end
end
section
open Go Go.RowKit
set_option maxRecDepth 100000
def xcl:XV→List XV
 | .a l=>l
 | x=>[x]
def XV.one:XV→Bool
 | .v x=>x.oneCell'
 | .a _=>false
 | .t _=>false
 | _=>true
section
variable {P:Program} {N:Nat} {w0:XEnv} {ρ γ:Nat→Nat} {F:XFr} {H:XHp} {a:Act} {w:World} {o:Oper}
theorem XV.one_den {x:XV} (h:x.one=true):(x.den ρ γ).oneCell'=true:=by
 cases x <;> first|exact h|rfl|cases h
theorem zX5 {v:XV} (h:(xcl v).all XV.one=true):(v.den ρ γ).cells=((xcl v).map (XV.den ρ γ)).toArray∧∀x∈xcl v,(x.den ρ γ).oneCell'=true:=by
 have h':∀x∈xcl v,(x.den ρ γ).oneCell'=true:=fun x hx=>XV.one_den (List.all_eq_true.1 h x hx)
 refine⟨?_,h'⟩
 cases v with
 | a l=>simp[XV.den,XV.denL_eq,Value.cells,xcl]
 | _=>
  have h2:=h' _ (List.mem_singleton.2 rfl)
  simp only[xcl,List.map_cons,List.map_nil]
  revert h2
  generalize XV.den ρ γ _=u
  intro this
  cases u <;> simp[Value.oneCell'] at this <;> rfl
theorem zh10 {A:Nat→Nat→Prop} {v:XV} (h:v.ok A):∀x∈xcl v,x.ok A:=by
 cases v with
 | a l=>rw[XV.ok,XV.okL_iff] at h;exact h
 | _=>intro x hx;rw[List.mem_singleton.1 hx];exact h
theorem zc5 {l xs:List XV} {off:Nat} (h:off+xs.length≤l.length):setAll (l.map (XV.den ρ γ)).toArray off (xs.map (XV.den ρ γ))=((putL l off xs).map (XV.den ρ γ)).toArray:=by
 refine Array.ext_getElem? fun k=>?_
 rw[zU _ _ _ _ (by simpa using h)]
 simp only[List.length_map,List.getElem?_map,List.getElem?_toArray]
 rw[zU2 h]
 split <;> rfl
def xbounds (P:Program) (F:XFr) (is:Bool) (n c:Nat) (lo hi mx:Option Operand):Option (Nat × Nat × Nat):=match lo.map (xevp F),hi.map (xevp F),mx.map (xevp F) with
 | none,none,none=>semPure P (Instr.sliceBounds is n c none none none)
 | some (some l),none,none=>semPure P (Instr.sliceBounds is n c (some l) none none)
 | none,some (some h),none=>semPure P (Instr.sliceBounds is n c none (some h) none)
 | some (some l),some (some h),none=>semPure P (Instr.sliceBounds is n c (some l) (some h) none)
 | none,some (some h),some (some m)=>semPure P (Instr.sliceBounds is n c none (some h) (some m))
 | some (some l),some (some h),some (some m)=>semPure P (Instr.sliceBounds is n c (some l) (some h) (some m))
 | _,_,_=>none
theorem zU4 {is:Bool} {n c:Nat} {lo hi mx:Option Operand} {r:Nat × Nat × Nat} (h:xbounds P F is n c lo hi mx=some r) (hR:XR N w0 ρ γ F H a w):(Instr.sliceBounds is n c (lo.map a.eval) (hi.map a.eval) (mx.map a.eval)).run P w = .ok r w:=by
 have key:∀{x:Option Operand} {u:Value},x.map (xevp F)=some (some u)→x.map a.eval=some u:=fun {x u} hx=>by
  simp only[Option.map_eq_some_iff] at hx
  obtain⟨y,h1,h2⟩:=hx
  rw[h1,Option.map_some,hR.evp h2]
 have keyn:∀{x:Option Operand},x.map (xevp F)=none→x.map a.eval=none:=fun {x} hx=>by
  rw[Option.map_eq_none_iff] at hx
  rw[hx];rfl
 unfold xbounds at h
 split at h
 ·rename_i h1 h2 h3;rw[keyn h1,keyn h2,keyn h3];exact zG w h
 ·rename_i l h1 h2 h3;rw[key h1,keyn h2,keyn h3];exact zG w h
 ·rename_i l h1 h2 h3;rw[keyn h1,key h2,keyn h3];exact zG w h
 ·rename_i l l2 h1 h2 h3;rw[key h1,key h2,keyn h3];exact zG w h
 ·rename_i l l2 h1 h2 h3;rw[keyn h1,key h2,key h3];exact zG w h
 ·rename_i l l2 l3 h1 h2 h3;rw[key h1,key h2,key h3];exact zG w h
 ·cases h
def xnat (F:XFr) (d:Nat):Option Operand→Option Nat
 | none=>some d
 | some y=>match xevp F y with
  | some (.int _ (.ofNat n))=>some n
  | _=>none
theorem zx8 {x:Option Operand} {d l:Nat} (h:xnat F d x=some l) (hR:XR N w0 ρ γ F H a w):(x.map a.eval=none∧l=d)∨∃kd,x.map a.eval=some (.int kd l):=by
 unfold xnat at h
 split at h
 ·injection h with h;exact .inl ⟨rfl,h.symm⟩
 ·split at h
  ·rename_i kd n hy;injection h with h;subst h;exact .inr ⟨kd,by rw[Option.map_some,hR.evp hy];rfl⟩
  ·cases h
def xslice (P:Program) (F:XFr) (op:Op):Option XV:=match op with
 | .slice t x lo hi mx=>(match xev F x with
  | some (.sl b k n c)=>(match elemSz P t,xbounds P F true n c lo hi mx with
   | some (_,sz),some (l,h,m)=>(match Nat.beq m l with
    | true=>some (.sl b k (h - l) 0)
    | false=>some (.sl b (k+l*sz) (h - l) (m - l)))
   | _,_=>none)
  | some (.sg b k n e)=>(match elemSz P t,mx,xnat F 0 lo,xnat F n hi with
   | some (_,sz),none,some l,some h=>bif Nat.ble h n && Nat.ble l h then (bif Nat.beq l 0 || Nat.blt l n then some (.sg b (k+l*sz) (h - l) (e+l)) else some (.se b k (k+l*sz) (e+l))) else none
   | _,_,_,_=>none)
  | some (.p b j)=>(match xarrSz P t with
   | some (n,_,sz)=>(match xbounds P F false n n lo hi mx with
    | some (l,h,m)=>(match Nat.beq m l with
     | true=>some (.sl b j (h - l) 0)
     | false=>some (.sl b (j+l*sz) (h - l) (m - l)))
    | none=>none)
   | none=>none)
  | _=>none)
 | _=>none
theorem zd10 {v:XV} (h:xslice P F o.op=some v) (hR:XR N w0 ρ γ F H a w):(execOp a.eval o).run P w = .ok (.value (v.den ρ γ)) w∧v.ok (H.has γ):=by
 unfold xslice at h
 split at h
 ·rename_i t x lo hi mx ho
  split at h
  ·rename_i b k n c hx
   split at h
   ·rename_i e sz l hh m he hb
    obtain⟨hu,hs⟩:=zA3 he
    obtain⟨h1,h2⟩:=hR.ev hx
    have hrun:=zU4 (w:=w) hb hR
    simp only[XV.den] at h1
    have hex:(execOp a.eval o).run P w = .ok (.value (.slice (if m=l then some ⟨ρ b,k,none⟩ else some ⟨ρ b,k+l*sz,none⟩) (hh - l) (m - l))) w:=by
     simp only[execOp,ho,h1,Instr.sliceAt,Instr.slice,Sem.run_bind,zC hu,Result.andThen_ok,hrun,zx1 hs,Sem.run_pure,Option.map_some,zU5]
    rw[hex]
    split at h
    ·rename_i hm
     injection h with h
     subst h
     have:=Nat.eq_of_beq_eq_true hm
     exact⟨by rw[if_pos this,this,Nat.sub_self];rfl,h2⟩
    ·rename_i hm
     injection h with h
     subst h
     exact⟨by rw[if_neg (Nat.ne_of_beq_eq_false hm)];rfl,h2⟩
   ·cases h
  ·rename_i b k n e hx
   split at h
   ·rename_i e' sz l hh he hl hhi
    obtain⟨hu,hs⟩:=zA3 he
    obtain⟨h1,h2⟩:=hR.ev hx
    cases hc:(Nat.ble hh n && Nat.ble l hh) with
    | false=>rw[hc] at h;cases h
    | true=>
     rw[hc] at h
     simp only[cond_true] at h
     simp only[Bool.and_eq_true,Nat.ble_eq] at hc
     obtain⟨hc2,hc3⟩:=hc
     have hcap:n≤γ b - e:=by have:=h2.2;omega
     have hrun:=zb2 (P:=P) (w:=w) (c:=γ b - e) (zx8 hl hR) (zx8 hhi hR) hc3 (Nat.le_trans hc2 hcap) true
     simp only[XV.den] at h1
     have hex:(execOp a.eval o).run P w = .ok (.value (.slice (if γ b - e=l then some ⟨ρ b,k,none⟩ else some ⟨ρ b,k+l*sz,none⟩) (hh - l) (γ b - e - l))) w:=by
      simp only[execOp,ho,h1,Instr.sliceAt,Instr.slice,Sem.run_bind,zC hu,Result.andThen_ok,Option.map_none,hrun,zx1 hs,Sem.run_pure,Option.map_some,zU5]
     rw[hex]
     cases hc1:(Nat.beq l 0 || Nat.blt l n) with
     | true=>
      rw[hc1] at h
      injection h with h
      subst h
      simp only[Bool.or_eq_true,Nat.blt_eq] at hc1
      replace hc1:l=0∨l < n:=hc1.imp Nat.eq_of_beq_eq_true id
      refine⟨?_,⟨h2.1,by have:=h2.2;omega⟩⟩
      simp only[XV.den,Nat.sub_add_eq]
      split
      ·rename_i hq
       have:l=0:=by omega
       subst this
       simp
      ·rfl
     | false=>
      rw[hc1] at h
      injection h with h
      subst h
      simp only[Bool.or_eq_false_iff] at hc1
      have hc4:¬l < n:=fun h=>by rw[←Nat.blt_eq] at h;rw[h] at hc1;cases hc1.2
      have hln:hh - l=0:=by omega
      refine⟨?_,⟨h2.1,by have:=h2.2;omega⟩⟩
      simp only[XV.den,Nat.sub_add_eq,hln]
      have h3:=h2.2
      by_cases hq:γ b - e=l
      ·rw[if_pos hq,if_pos (by omega)]
      ·rw[if_neg hq,if_neg (by omega)]
   ·cases h
  ·rename_i b j hx
   split at h
   ·rename_i n e sz ha
    obtain⟨hu,hs⟩:=zQ2 ha
    split at h
    ·rename_i l hh m hb
     obtain⟨h1,h2⟩:=hR.ev hx
     have hrun:=zU4 (w:=w) hb hR
     simp only[XV.den] at h1
     have hex:(execOp a.eval o).run P w = .ok (.value (.slice (some (if m=l then ⟨ρ b,j,none⟩ else ⟨ρ b,j+l*sz,none⟩)) (hh - l) (m - l))) w:=by
      simp only[execOp,ho,h1,Instr.sliceAt,Instr.sureAddr,Sem.run_bind,zC hu,Result.andThen_ok,hrun,zx1 hs,Sem.run_pure,zU5]
     rw[hex]
     split at h
     ·rename_i hm
      injection h with h
      subst h
      have:=Nat.eq_of_beq_eq_true hm
      exact⟨by rw[if_pos this,this,Nat.sub_self];rfl,h2⟩
     ·rename_i hm
      injection h with h
      subst h
      exact⟨by rw[if_neg (Nat.ne_of_beq_eq_false hm)];rfl,h2⟩
    ·cases h
   ·cases h
  ·cases h
 ·cases h
end
end
section
open Go Go.RowKit
set_option maxRecDepth 100000
def xevL (F:XFr):List Operand→Option (List XV)
 | []=>some []
 | x :: l=>match xevn F x,xevL F l with
  | some v,some vs=>some (v :: vs)
  | _,_=>none
def xfill (F:XFr) (pl:Nat→Option (Nat × Nat)):List (Nat × Operand)→List XV→Option (List XV)
 | [],l=>some l
 | (i,x) :: ps,l=>match xevn F x,pl i with
  | some v,some (off,k)=>bif Nat.beq (xcl v).length k && Nat.ble (off+k) l.length && (xcl v).all XV.one then xfill F pl ps (putL l off (xcl v)) else none
  | _,_=>none
section
variable {P:Program} {N:Nat} {w0:XEnv} {ρ γ:Nat→Nat} {F:XFr} {H:XHp} {a:Act} {w:World} {o:Oper}
theorem XR.evL (hR:XR N w0 ρ γ F H a w):∀{l:List Operand} {vs:List XV},xevL F l=some vs→l.map a.eval=XV.denL ρ γ vs∧XV.okL (H.has γ) vs
 | [],vs,h=>by cases h;exact⟨rfl,trivial⟩
 | x :: l,vs,h=>by
  unfold xevL at h
  split at h
  ·rename_i v vs' hv hl
   injection h with h
   subst h
   obtain⟨h1,h2⟩:=hR.evn hv
   obtain⟨h3,h4⟩:=XR.evL hR hl
   exact⟨by rw[List.map_cons,h1,h3,XV.denL],h2,h4⟩
  ·cases h
theorem zO3 {l xs:List XV} {j:Nat} {x:XV} (h:x∈putL l j xs):x∈l∨x∈xs:=by
 unfold putL at h
 rcases List.mem_append.1 h with h|h
 ·rcases List.mem_append.1 h with h|h
  ·exact .inl (List.mem_of_mem_take h)
  ·exact .inr h
 ·exact .inl (List.mem_of_mem_drop h)
theorem zG3 {pl:Nat→Option (Nat × Nat)} (hR:XR N w0 ρ γ F H a w):∀{ps:List (Nat × Operand)} {l l':List XV},xfill F pl ps l=some l'→(∀x∈l,x.ok (H.has γ))→(∀x∈l,(x.den ρ γ).oneCell'=true) →
    Instr.fill pl (l.map (XV.den ρ γ)).toArray (ps.map fun x=>(x.1,a.eval x.2))=some (l'.map (XV.den ρ γ)).toArray∧(∀x∈l',x.ok (H.has γ))∧(∀x∈l',(x.den ρ γ).oneCell'=true)∧l'.length=l.length
 | [],l,l',h,hl,h1=>by cases h;exact⟨rfl,hl,h1,rfl⟩
 | (i,x) :: ps,l,l',h,hl,h1=>by
  unfold xfill at h
  split at h
  ·rename_i v off k hv hp
   cases hc:(Nat.beq (xcl v).length k && Nat.ble (off+k) l.length && (xcl v).all XV.one) with
   | false=>rw[hc] at h;cases h
   | true=>
    rw[hc] at h
    simp only[Bool.and_eq_true,Nat.ble_eq] at hc
    obtain⟨⟨hc1,hc2⟩,hc3⟩:=hc
    have hk:=Nat.eq_of_beq_eq_true hc1
    obtain⟨g1,g2⟩:=hR.evn hv
    obtain⟨e1,e2⟩:=zX5 (ρ:=ρ) (γ:=γ) hc3
    have e3:=zh10 g2
    obtain⟨q1,q2,q3,q4⟩:=zG3 hR h (fun x hx=>by
     rcases zO3 hx with hx|hx
     ·exact hl x hx
     ·exact e3 x hx) (fun x hx=>by
     rcases zO3 hx with hx|hx
     ·exact h1 x hx
     ·exact e2 x hx)
    refine⟨?_,q2,q3,by rw[q4,zm6 (by omega)]⟩
    simp only[List.map_cons,Instr.fill,hp,g1,e1,List.size_toArray,List.length_map,hk,ne_eq,not_true_eq_false,decide_false,Bool.false_or]
    rw[if_neg (by simp;omega),zs3]
    simp only
    rw[zc5 (by omega)]
    exact q1
  ·cases h
def xzero (P:Program) (t:TypeId):Option (List XV):=match (P.info? t).bind (·.zero) with
 | some z=>bif z.cells.toList.all Value.oneCell' then some (z.cells.toList.map .v) else none
 | none=>none
theorem zE3 {t:TypeId} {l:List XV} (h:xzero P t=some l):∃z,(zeroValue t).run P w = .ok z w∧z.cells=(l.map (XV.den ρ γ)).toArray∧(∀x∈l,x.ok (H.has γ))∧(∀x∈l,(x.den ρ γ).oneCell'=true)∧(P.info? t).bind (·.zero)=some z:=by
 unfold xzero at h
 split at h
 ·rename_i z hz
  cases hc:z.cells.toList.all Value.oneCell' with
  | false=>rw[hc] at h;cases h
  | true=>
   rw[hc] at h
   injection h with h
   subst h
   refine⟨z, ?_,by simp[Function.comp_def,XV.den],fun x hx=>?_,fun x hx=>?_,hz⟩
   ·unfold zeroValue typeInfo
    cases hi:P.info? t with
    | none=>rw[hi] at hz;cases hz
    | some i=>
     rw[hi] at hz
     simp only[Option.bind_some] at hz
     simp[hi,hz]
   ·obtain⟨v,hv,rfl⟩:=List.mem_map.1 hx;trivial
   ·obtain⟨v,hv,rfl⟩:=List.mem_map.1 hx;exact List.all_eq_true.1 hc v hv
 ·cases h
def xbuild (P:Program) (F:XFr) (op:Op):Option XV:=match op with
 | .build t ps=>(match xzero P t with
  | some z=>(match bplaces P t with
   | some pl=>(match xfill F (fun i=>pl[i]?) ps.toList z with
    | some l=>some (.a l)
    | none=>none)
   | none=>(match xarrSz P t with
    | some (_,_,sz)=>(match xfill F (fun i=>some (i*sz,sz)) ps.toList z with
     | some l=>some (.a l)
     | none=>none)
    | none=>none))
  | none=>none)
 | .makeFunc (.func f) first caps=>bif first.isEmpty then (match xevL F caps.toList with
  | some l=>some (.f f l)
  | none=>none) else none
 | .extract x i=>(match xevn F x with
  | some (.t l)=>l[i]?
  | _=>none)
 | .move x=>xevn F x
 | .assign x=>xevn F x
 | .pick c x y=>(match xevp F c with
  | some (.bool true)=>xevn F x
  | some (.bool false)=>xevn F y
  | _=>none)
 | _=>none
theorem zH2 {v:XV} (h:xbuild P F o.op=some v) (hR:XR N w0 ρ γ F H a w):(execOp a.eval o).run P w = .ok (.value (v.den ρ γ)) w∧v.ok (H.has γ):=by
 unfold xbuild at h
 split at h
 ·rename_i t ps ho
  have hps:(ps.map fun(i,x)=>(i,a.eval x)).toList=ps.toList.map fun x=>(x.1,a.eval x.2):=by simp
  split at h
  ·rename_i z hz
   obtain⟨zv,hz1,hz2,hz3,hz4,hz5⟩:=zE3 (w:=w) (ρ:=ρ) (γ:=γ) (H:=H) hz
   split at h
   ·rename_i pl hpl
    split at h
    ·rename_i l hl
     injection h with h
     subst h
     obtain⟨h1,h2,_⟩:=zG3 hR hl hz3 hz4
     refine⟨?_,by rw[XV.ok,XV.okL_iff];exact h2⟩
     unfold bplaces at hpl
     cases hu:P.underlying t with
     | none=>rw[hu] at hpl;cases hpl
     | some dsc=>
      rw[hu] at hpl
      cases dsc <;> simp only[reduceCtorEq] at hpl
      rename_i fs
      have hm:(fs.mapM (m:=Sem) fun f=>do pure (f.offset,←sizeOf f.type)).run P w = .ok pl.toArray w:=by
       rw[Array.mapM_eq_mapM_toList,Sem.run_map,zo5 hpl];rfl
      have h1':Instr.fill (fun x=>pl.toArray[x]?) zv.cells (ps.map fun(i,x)=>(i,a.eval x)).toList=some (l.map (XV.den ρ γ)).toArray:=by
       rw[hz2,hps,←h1]
       simp only[List.getElem?_toArray]
      simp only[execOp,ho,Instr.build,Sem.run_bind,hz1,zC hu,Result.andThen_ok,hm,h1',Sem.run_pure,XV.den,XV.denL_eq]
    ·cases h
   ·split at h
    ·rename_i n e sz ha
     obtain⟨hu,hs⟩:=zQ2 ha
     split at h
     ·rename_i l hl
      injection h with h
      subst h
      obtain⟨h1,h2,_⟩:=zG3 hR hl hz3 hz4
      refine⟨?_,by rw[XV.ok,XV.okL_iff];exact h2⟩
      have h1':Instr.fill (fun i=>some (i*sz,sz)) zv.cells (ps.map fun(i,x)=>(i,a.eval x)).toList=some (l.map (XV.den ρ γ)).toArray:=by
       rw[hz2,hps,←h1]
      simp only[execOp,ho,Instr.build,Sem.run_bind,hz1,zC hu,zx1 hs,Result.andThen_ok,h1',Sem.run_pure,XV.den,XV.denL_eq]
     ·cases h
    ·cases h
  ·cases h
 ·rename_i f first caps ho
  cases hf:first.isEmpty with
  | false=>rw[hf] at h;cases h
  | true=>
   rw[hf] at h
   simp only[cond_true] at h
   split at h
   ·rename_i l hl
    injection h with h
    subst h
    obtain⟨h1,h2⟩:=hR.evL hl
    refine⟨?_,h2⟩
    have hf':first=#[]:=by simpa using hf
    subst hf'
    have hc:caps.map a.eval=(XV.denL ρ γ l).toArray:=by rw[←h1,←Array.toList_map]
    simp only[execOp,ho,Instr.makeFunc,Sem.run_bind,Sem.run_pure,Result.andThen_ok,hc,XV.den,List.map_toArray,List.map_nil]
   ·cases h
 ·rename_i x i ho
  split at h
  ·rename_i l hx
   obtain⟨h1,h2⟩:=hR.evn hx
   rw[XV.ok,XV.okL_iff] at h2
   simp only[XV.den,XV.denL_eq] at h1
   exact⟨by simp[execOp,ho,h1,Instr.extract,h],h2 v (List.mem_of_getElem? h)⟩
  ·cases h
 ·rename_i x ho
  obtain⟨h1,h2⟩:=hR.evn h
  exact⟨by simp[execOp,ho,h1],h2⟩
 ·rename_i x ho
  obtain⟨h1,h2⟩:=hR.evn h
  exact⟨by simp[execOp,ho,h1],h2⟩
 ·rename_i c x y ho
  split at h
  ·rename_i hc
   obtain⟨h1,h2⟩:=hR.evn h
   exact⟨by simp[execOp,ho,h1,hR.evp hc,asBool],h2⟩
  ·rename_i hc
   obtain⟨h1,h2⟩:=hR.evn h
   exact⟨by simp[execOp,ho,h1,hR.evp hc,asBool],h2⟩
  ·cases h
 ·cases h
end
end
end Go.Proofs.YtophoepbedlhjaaGreatDoor
