/- Keys, by value: the program's and the document's. -/
import Derived.Test.YtophoepbedlhjaaGreatDoorQaq
import Derived.Test.YtophoepbedlhjaaGreatDoorQar
import Derived.Test.YtophoepbedlhjaaGreatDoorQas
import Derived.Shelf.Strconv.Atoi
import Derived.Test.YtophoepbedlhjaaGreatDoorProg
set_option linter.unusedSimpArgs false
set_option linter.unusedVariables false
namespace Go.Proofs.YtophoepbedlhjaaGreatDoor
open Go Go.Shelf Go.RowKit
set_option maxRecDepth 100000
def zh13:Go.Shelf.Ren:=⟨fun|172=>155|244=>242|245=>243|247=>307|279=>308|280=>309|281=>310|282=>311|287=>360|316=>361|171=>143|205=>362|321=>395|322=>396|243=>227|246=>297|283=>352|284=>353|285=>354|286=>355|129=>216|317=>390|318=>391|319=>392|320=>393|337=>421|338=>422|n=>n,fun|9=>9|3=>3|75=>142|76=>143|4=>4|5=>5|167=>372|37=>138|0=>0|85=>373|2=>2|168=>375|53=>277|175=>426|46=>211|210=>429|127=>224|145=>457|143=>455|21=>21|171=>420|173=>422|212=>447|51=>274|20=>20|213=>448|232=>480|233=>481|80=>57|n=>n,fun|15=>1|16=>2|17=>3|18=>6|19=>7|n=>n⟩
theorem atoiL:Go.Proofs.Lays.n172 Tryz.prog zh13:={
 mixed:=by kernel_rfl
 f129:=Tryz.func216.trans (congrArg some (by kernel_rfl))
 f171:=Tryz.func143.trans (congrArg some (by kernel_rfl))
 f172:=Tryz.func155.trans (congrArg some (by kernel_rfl))
 f205:=Tryz.func362.trans (congrArg some (by kernel_rfl))
 f243:=Tryz.func227.trans (congrArg some (by kernel_rfl))
 f244:=Tryz.func242.trans (congrArg some (by kernel_rfl))
 f245:=Tryz.func243.trans (congrArg some (by kernel_rfl))
 f246:=Tryz.func297.trans (congrArg some (by kernel_rfl))
 f247:=Tryz.func307.trans (congrArg some (by kernel_rfl))
 f279:=Tryz.func308.trans (congrArg some (by kernel_rfl))
 f280:=Tryz.func309.trans (congrArg some (by kernel_rfl))
 f281:=Tryz.func310.trans (congrArg some (by kernel_rfl))
 f282:=Tryz.func311.trans (congrArg some (by kernel_rfl))
 f283:=Tryz.func352.trans (congrArg some (by kernel_rfl))
 f284:=Tryz.func353.trans (congrArg some (by kernel_rfl))
 f285:=Tryz.func354.trans (congrArg some (by kernel_rfl))
 f286:=Tryz.func355.trans (congrArg some (by kernel_rfl))
 f287:=Tryz.func360.trans (congrArg some (by kernel_rfl))
 f316:=Tryz.func361.trans (congrArg some (by kernel_rfl))
 f317:=Tryz.func390.trans (congrArg some (by kernel_rfl))
 f318:=Tryz.func391.trans (congrArg some (by kernel_rfl))
 f319:=Tryz.func392.trans (congrArg some (by kernel_rfl))
 f320:=Tryz.func393.trans (congrArg some (by kernel_rfl))
 f321:=Tryz.func395.trans (congrArg some (by kernel_rfl))
 f322:=Tryz.func396.trans (congrArg some (by kernel_rfl))
 f337:=Tryz.func421.trans (congrArg some (by kernel_rfl))
 f338:=Tryz.func422.trans (congrArg some (by kernel_rfl))
 t0:=Tryz.underlying0
 a0:=Tryz.isAgg0
 z0:=Tryz.sizeOf0
 v0:=Tryz.zeroValue0
 t2:=Tryz.underlying2
 a2:=Tryz.isAgg2
 z2:=Tryz.sizeOf2
 v2:=Tryz.zeroValue2
 t3:=Tryz.underlying3
 a3:=Tryz.isAgg3
 z3:=Tryz.sizeOf3
 v3:=Tryz.zeroValue3
 t4:=Tryz.underlying4
 a4:=Tryz.isAgg4
 z4:=Tryz.sizeOf4
 v4:=Tryz.zeroValue4
 t5:=Tryz.underlying5
 a5:=Tryz.isAgg5
 z5:=Tryz.sizeOf5
 v5:=Tryz.zeroValue5
 t9:=Tryz.underlying9
 a9:=Tryz.isAgg9
 z9:=Tryz.sizeOf9
 v9:=Tryz.zeroValue9
 t20:=Tryz.underlying20
 a20:=Tryz.isAgg20
 z20:=Tryz.sizeOf20
 v20:=Tryz.zeroValue20
 t21:=Tryz.underlying21
 a21:=Tryz.isAgg21
 z21:=Tryz.sizeOf21
 v21:=Tryz.zeroValue21
 t37:=Tryz.underlying138
 a37:=Tryz.isAgg138
 z37:=Tryz.sizeOf138
 v37:=Tryz.zeroValue138
 t46:=Tryz.underlying211
 a46:=Tryz.isAgg211
 z46:=Tryz.sizeOf211
 v46:=Tryz.zeroValue211
 t51:=Tryz.underlying274
 a51:=Tryz.isAgg274
 z51:=Tryz.sizeOf274
 v51:=Tryz.zeroValue274
 t53:=Tryz.underlying277
 a53:=Tryz.isAgg277
 z53:=Tryz.sizeOf277
 v53:=Tryz.zeroValue277
 t75:=Tryz.underlying142
 a75:=Tryz.isAgg142
 z75:=Tryz.sizeOf142
 v75:=Tryz.zeroValue142
 t76:=Tryz.underlying143
 a76:=Tryz.isAgg143
 z76:=Tryz.sizeOf143
 v76:=Tryz.zeroValue143
 t85:=Tryz.underlying373
 a85:=Tryz.isAgg373
 z85:=Tryz.sizeOf373
 v85:=Tryz.zeroValue373
 t127:=Tryz.underlying224
 a127:=Tryz.isAgg224
 z127:=Tryz.sizeOf224
 v127:=Tryz.zeroValue224
 t143:=Tryz.underlying455
 a143:=Tryz.isAgg455
 z143:=Tryz.sizeOf455
 v143:=Tryz.zeroValue455
 t145:=Tryz.underlying457
 a145:=Tryz.isAgg457
 z145:=Tryz.sizeOf457
 v145:=Tryz.zeroValue457
 t167:=Tryz.underlying372
 a167:=Tryz.isAgg372
 z167:=Tryz.sizeOf372
 v167:=Tryz.zeroValue372
 t168:=Tryz.underlying375
 a168:=Tryz.isAgg375
 z168:=Tryz.sizeOf375
 v168:=Tryz.zeroValue375
 t171:=Tryz.underlying420
 a171:=Tryz.isAgg420
 z171:=Tryz.sizeOf420
 v171:=Tryz.zeroValue420
 t173:=Tryz.underlying422
 a173:=Tryz.isAgg422
 z173:=Tryz.sizeOf422
 v173:=Tryz.zeroValue422
 t175:=Tryz.underlying426
 a175:=Tryz.isAgg426
 z175:=Tryz.sizeOf426
 v175:=Tryz.zeroValue426
 t210:=Tryz.underlying429
 a210:=Tryz.isAgg429
 z210:=Tryz.sizeOf429
 v210:=Tryz.zeroValue429
 t212:=Tryz.underlying447
 a212:=Tryz.isAgg447
 z212:=Tryz.sizeOf447
 v212:=Tryz.zeroValue447
 t213:=Tryz.underlying448
 a213:=Tryz.isAgg448
 z213:=Tryz.sizeOf448
 t232:=Tryz.underlying480
 a232:=Tryz.isAgg480
 z232:=Tryz.sizeOf480
 v232:=Tryz.zeroValue480
 t233:=Tryz.underlying481
 a233:=Tryz.isAgg481
 z233:=Tryz.sizeOf481
 v233:=Tryz.zeroValue481
 g15:=by kernel_rfl
 g16:=by kernel_rfl
 g17:=by kernel_rfl
 g18:=by kernel_rfl
 g19:=by kernel_rfl }
theorem zw9 {P:Program} {f:FuncId} {args:List AV} {u:AV} {v:Value} (hu:∀w S ρ H,WF w S ρ H u∧u.den ρ H=v) (h:∀ρ w,Calls P f (args.map (AV.den ρ [])).toArray w fun e w'=>e = .returned v∧w'.os=w.os∧w'.tape=w.tape∧w'.output=w.output∧w.heap.size≤w'.heap.size∧∀b,b < w.heap.size→w'.heap[b]?=w.heap[b]?):ACalls P f args [] fun u' H=>u'=u∧H = []:=fun S ρ w hR hW=>by
 refine(zP3 (fun e w' hq=>⟨v,hq.1⟩) (h ρ w)).mono ?_
 rintro e w' ⟨⟨rfl,h1,h2,h3,h4,h5⟩,hd⟩
 refine⟨u,[],ρ,S,by rw[(hu w' S ρ []).2],⟨rfl,rfl⟩,(hu w' S ρ []).1,⟨hR.len,hR.nd,hR.ap,fun i B h=>Nat.lt_of_lt_of_le (hR.lt i B h) h4,fun b hb=>Nat.lt_of_lt_of_le (hR.sS b hb) h4,fun i o h=>by simp at h,PL.none fun _ _ _=>zx1⟩,⟨h1,h2,h3,h4,fun b hb _=>h5 b hb,hd⟩,fun b hb=>.inl hb,fun i B hi=>?_,fun i k' B hi=>absurd hi zx1,fun i hi=>by simp at hi,fun h=>by cases h⟩
 have hr0:ρ = []:=List.eq_nil_of_length_eq_zero hR.len
 subst hr0
 cases hi
theorem zX17 (s:List UInt8) (n:Int) (hl:s.length≤18) (h:Lib.atoi s=some n):ACalls Tryz.prog 155 [.c (T s)] [] fun u H=>u = .t [.c (I n),.c (.s .nilIface)]∧H = []:=
 zw9 (v:=.tuple #[.int .i64 n,.nilIface]) (fun w S ρ H=>⟨.t fun x hx=>by
  simp only[List.mem_cons,List.not_mem_nil,or_false] at hx
  rcases hx with rfl|rfl
  ·exact .c (.s _)
  ·exact .c (.s _),rfl⟩) fun ρ w=>(Any.strconv_Atoi atoiL (bst s) n (by show s.toArray.size≤18;simpa using hl) (by show Lib.atoi s.toArray.toList=some n;simpa using h) w).mono (by
  rintro e w' ⟨rfl,t,rfl⟩
  exact⟨rfl,rfl,rfl,rfl,by rw[Lib.bytesWorld_size];omega,fun b h=>Lib.bytesWorld_at_old w _ t b h⟩)
end Go.Proofs.YtophoepbedlhjaaGreatDoor
-- NEWM
namespace Go.Proofs.YtophoepbedlhjaaGreatDoor
open Go Go.RowKit
set_option maxRecDepth 100000
def outB (n lo hi:Int):Bool:=decide (n < lo) || decide (hi < n)
theorem zY8 (n lo hi:Int):ACalls Tryz.prog 112 [.c (I n),.c (I lo),.c (I hi)] [] fun u H=>u = .c (B (outB n lo hi))∧H = []:=by
 refine zf (N:=15) Tryz.func112 rfl rfl (by simp) fun E hE=>?_
 by_cases h1:n < lo
 ·repeat' (first
   | refine ZY ?_
   | refine zo rfl (by assumption) ?_|refine zm rfl (by assumption) ?_|refine zl rfl (fun _=>?_) (fun _=>?_)|refine zj rfl (fun _=>?_) (fun _=>?_)
   | (refine zc ?_;refine WE ?_))
  exact arz (q:=⟨congrArg (fun z=>AV.c (B z)) (by simp[outB,h1]),rfl⟩)
 ·by_cases h2:hi < n
  ·repeat' (first
    | refine ZY ?_
    | refine zo rfl (by assumption) ?_|refine zm rfl (by assumption) ?_|refine zl rfl (fun _=>?_) (fun _=>?_)|refine zj rfl (fun _=>?_) (fun _=>?_)
    | (refine zc ?_;refine WE ?_))
   exact arz (q:=⟨congrArg (fun z=>AV.c (B z)) (by simp[outB,h2]),rfl⟩)
  ·repeat' (first
    | refine ZY ?_
    | refine zo rfl (by assumption) ?_|refine zm rfl (by assumption) ?_|refine zl rfl (fun _=>?_) (fun _=>?_)|refine zj rfl (fun _=>?_) (fun _=>?_)
    | (refine zc ?_;refine WE ?_))
   exact arz (q:=⟨congrArg (fun z=>AV.c (B z)) (by simp[outB,h1,h2]),rfl⟩)
def moB (n:Int):Bool:=!outB n 0 345686399999
theorem zw3 (n:Int):ACalls Tryz.prog 193 [.c (I n)] [] fun u H=>u = .c (B (moB n))∧H = []:=by
 refine zf (N:=6) Tryz.func193 rfl rfl (by simp) fun E hE=>?_
 repeat' (first
  | refine ZY ?_
  | refine zo rfl (by assumption) ?_|refine zm rfl (by assumption) ?_|refine zl rfl (fun _=>?_) (fun _=>?_)|refine zj rfl (fun _=>?_) (fun _=>?_)
  | (refine zc (id:=1) ?_
     refine WO ?_
     refine ze rfl (efk (c:=fun _=>zY8 _ _ _)) ?_
     rintro _ _ ⟨_,_,_,⟨rfl,rfl⟩,hF,hH⟩
     (refine NST hF hH ?_;clear hF hH;rintro rfl rfl)
     refine WE ?_)
  | (refine zc ?_;refine WE ?_))
 exact arz (q:=⟨rfl,rfl⟩)
theorem zG17 (l:List UInt8) (c:UInt8):ACalls Tryz.prog 288 [.c (T l),.c (.s (.int .u8 c.toNat))] [] fun u H=>u = .c (I (idxB c l 0))∧H = []:=by
 refine zf (N:=8) Tryz.func288 rfl rfl (by simp) fun E hE=>?_
 repeat' (first
  | refine ZY ?_
  | refine zo rfl (by assumption) ?_|refine zm rfl (by assumption) ?_|refine zl rfl (fun _=>?_) (fun _=>?_)|refine zj rfl (fun _=>?_) (fun _=>?_)
  | (refine zc (id:=1) ?_
     refine WO ?_
     refine ZA (zy14 (us:=[.string (bst l),.int .u8 c.toNat]) rfl rfl (fun _ _=>rfl) Tryz.func349 (by decide +kernel) rfl rfl rfl (fun w=>run_indexByte_string _ _ w)) ?_
     refine WE ?_)
  | (refine zc ?_;refine WE ?_))
 exact arz (q:=⟨congrArg (fun z=>AV.c (I z)) (by first|exact zK5 l c|(simp;exact zK5 l c)),rfl⟩)
theorem zk15 (l:List UInt8) (c:UInt8):ACalls Tryz.prog 197 [.c (T l),.c (.s (.int .u8 c.toNat))] [] fun u H=>u = .c (I (idxB c l 0))∧H = []:=by
 refine zf (N:=8) Tryz.func197 rfl rfl (by simp) fun E hE=>?_
 repeat' (first
  | refine ZY ?_
  | refine zo rfl (by assumption) ?_|refine zm rfl (by assumption) ?_|refine zl rfl (fun _=>?_) (fun _=>?_)|refine zj rfl (fun _=>?_) (fun _=>?_)
  | (refine zc (id:=1) ?_
     refine WO ?_
     refine ze rfl (efk (c:=fun _=>zG17 l c)) ?_
     rintro _ _ ⟨_,_,_,⟨rfl,rfl⟩,hF,hH⟩
     (refine NST hF hH ?_;clear hF hH;rintro rfl rfl)
     refine WE ?_)
  | (refine zc ?_;refine WE ?_))
 exact arz (q:=⟨rfl,rfl⟩)
end Go.Proofs.YtophoepbedlhjaaGreatDoor
-- NEWM
namespace Go.Proofs.YtophoepbedlhjaaGreatDoor
open Go Go.RowKit
set_option maxRecDepth 100000
abbrev smallL:List UInt8:=[97,98,99,100,101,102,103,104,105,106,107,108,109,110,111,112,113,114,115,116,117,118,119,120,121,122]
abbrev keyL:List UInt8:=[97,98,99,100,101,102,103,104,105,106,107,108,109,110,111,112,113,114,115,116,117,118,119,120,121,122,48,49,50,51,52,53,54,55,56,57,45,95]
def keyB (s:List UInt8):Bool:=match s with
 | []=>false
 | b :: _=>decide (s.length≤40) && smallL.contains b && decide (trB keyL s = [])
theorem zI2 (b:UInt8) (r:List UInt8):keyB (b :: r)=(decide ((b :: r).length≤40) && smallL.contains b && decide (trB keyL (b :: r) = [])):=rfl
theorem za1 {P:Program} {N:Nat} {E:Env} {F:Fm} {H:List OB} {o:Oper} {t yt:TypeId} {x y:Operand} {a b:List UInt8} {q:Bool} (h:decide (a≠b)=q) (ho:o.op = .binOp .neq t x y yt) (ht:P.underlying t=some .string) (hx:ev F x=some (.c (T a))) (hy:ev F y=some (.c (T b))):Rd P N E o F H (.c (B q)):=h▸zN8 ho ht hx hy
theorem zG5 (s:List UInt8) (hl:s.length≤1000000000):ACalls Tryz.prog 125 [.c (T s)] [] fun u H=>u = .c (B (keyB s))∧H = []:=by
 refine zf (N:=21) Tryz.func125 rfl rfl (by simp) fun E hE=>?_
 cases s with
 | nil=>
  repeat' (first
   | refine ZY ?_
   | refine zo rfl (by assumption) ?_|refine zm rfl (by assumption) ?_|refine zl rfl (fun _=>?_) (fun _=>?_)|refine zj rfl (fun _=>?_) (fun _=>?_)
   | (refine zc (id:=1) ?_
      refine WX1 ?_
      refine ZA (za1 (b:=[]) (decide_eq_false (fun h=>h rfl)) rfl Tryz.underlying9 rfl rfl) ?_
      refine WO ?_
      first|refine ZS ?_|(refine G1 rfl ?_;refine zT3 rfl rfl (by decide) ZFALSE ?_)|skip
      refine WO ?_
      first|refine ZS ?_|(refine G1 rfl ?_;refine zT3 rfl rfl (by decide) ZFALSE ?_)|skip
      refine WE ?_)
   | (refine zc ?_;refine WE ?_))
  exact arz (q:=⟨rfl,rfl⟩)
 | cons b r=>
  have hne:decide ((b :: r)≠[])=true:=decide_eq_true (fun h=>by cases h)
  by_cases h40:(b :: r).length≤40
  ·have h40':((b :: r).length:Int)≤40:=by omega
   by_cases hs:0≤idxB b smallL 0
   ·have hm:=idxB_neg.1 hs
    obtain⟨q,hq⟩:∃q,decide (trB keyL (b :: r) = [])=q:=⟨_,rfl⟩
    repeat' (first
     | refine ZY ?_
     | refine zo rfl (by assumption) ?_|refine zm rfl (by assumption) ?_|refine zl rfl (fun _=>?_) (fun _=>?_)|refine zj rfl (fun _=>?_) (fun _=>?_)
     | (refine zc (id:=1) ?_
        refine WX1 ?_
        refine ZA (za1 (b:=[]) hne rfl Tryz.underlying9 rfl rfl) ?_
        iterate 7 refine WX1 ?_
        first|refine ZP (zb2 (i:=0) rfl Tryz.underlying9 rfl rfl rfl rfl) ?_|refine ZS ?_
        first|refine ZS ?_|(refine G1 rfl ?_;refine ze rfl (efk (c:=fun _=>zk15 smallL b)) ?_;rintro _ _ ⟨_,_,_,⟨rfl,rfl⟩,hF,hH⟩;(refine NST hF hH ?_;clear hF hH;rintro rfl rfl))|skip
        refine WO ?_
        first|refine ZS ?_|(refine G1 rfl ?_;refine ze rfl (efk (c:=fun _=>zc4 keyL (b :: r) (by decide) (by decide) hl)) ?_;rintro _ _ ⟨_,_,_,⟨rfl,rfl⟩,hF,hH⟩;(refine NST hF hH ?_;clear hF hH;rintro rfl rfl))|skip
        first|refine ZP (zJ (b:=[]) hq rfl Tryz.underlying9 rfl rfl) ?_|refine ZS ?_
        refine WE ?_)
     | (refine zc ?_;refine WE ?_))
    exact arz (q:=⟨congrArg (fun z=>AV.c (B z)) (by rw[zI2,hq,decide_eq_true h40,List.contains_iff_mem.2 hm];rfl),rfl⟩)
   ·have hm:smallL.contains b=false:=by
     rw[Bool.eq_false_iff]
     exact fun h=>hs (idxB_neg.2 (List.contains_iff_mem.1 h))
    repeat' (first
     | refine ZY ?_
     | refine zo rfl (by assumption) ?_|refine zm rfl (by assumption) ?_|refine zl rfl (fun _=>?_) (fun _=>?_)|refine zj rfl (fun _=>?_) (fun _=>?_)
     | (refine zc (id:=1) ?_
        refine WX1 ?_
        refine ZA (za1 (b:=[]) hne rfl Tryz.underlying9 rfl rfl) ?_
        iterate 7 refine WX1 ?_
        first|refine ZP (zb2 (i:=0) rfl Tryz.underlying9 rfl rfl rfl rfl) ?_|refine ZS ?_
        first|refine ZS ?_|(refine G1 rfl ?_;refine ze rfl (efk (c:=fun _=>zk15 smallL b)) ?_;rintro _ _ ⟨_,_,_,⟨rfl,rfl⟩,hF,hH⟩;(refine NST hF hH ?_;clear hF hH;rintro rfl rfl))|skip
        refine WO ?_
        first|refine ZS ?_|(refine G1 rfl ?_;refine ze rfl (efk (c:=fun _=>zc4 keyL (b :: r) (by decide) (by decide) hl)) ?_;rintro _ _ ⟨_,_,_,⟨rfl,rfl⟩,hF,hH⟩;(refine NST hF hH ?_;clear hF hH;rintro rfl rfl))|skip
        refine WE ?_)
     | (refine zc ?_;refine WE ?_))
    exact arz (q:=⟨congrArg (fun z=>AV.c (B z)) (by rw[zI2,hm];simp),rfl⟩)
  ·have h40':¬((b :: r).length:Int)≤40:=by omega
   repeat' (first
    | refine ZY ?_
    | refine zo rfl (by assumption) ?_|refine zm rfl (by assumption) ?_|refine zl rfl (fun _=>?_) (fun _=>?_)|refine zj rfl (fun _=>?_) (fun _=>?_)
    | (refine zc (id:=1) ?_
       refine WX1 ?_
       refine ZA (za1 (b:=[]) hne rfl Tryz.underlying9 rfl rfl) ?_
       refine WO ?_
       first|refine ZS ?_|(refine G1 rfl ?_;refine ze rfl (efk (c:=fun _=>zk15 smallL b)) ?_;rintro _ _ ⟨_,_,_,⟨rfl,rfl⟩,hF,hH⟩;(refine NST hF hH ?_;clear hF hH;rintro rfl rfl))|skip
       refine WO ?_
       first|refine ZS ?_|(refine G1 rfl ?_;refine ze rfl (efk (c:=fun _=>zc4 keyL (b :: r) (by decide) (by decide) hl)) ?_;rintro _ _ ⟨_,_,_,⟨rfl,rfl⟩,hF,hH⟩;(refine NST hF hH ?_;clear hF hH;rintro rfl rfl))|skip
       refine WE ?_)
    | (refine zc ?_;refine WE ?_))
   exact arz (q:=⟨congrArg (fun z=>AV.c (B z)) (by rw[zI2,decide_eq_false h40];rfl),rfl⟩)
theorem zz12 (n lo hi:Int):ACalls Tryz.prog 146 [.c (I n),.c (I lo),.c (I hi)] [] fun u H=>u = .c (B (!outB n lo hi))∧H = []:=by
 refine zf (N:=15) Tryz.func146 rfl rfl (by simp) fun E hE=>?_
 by_cases h1:lo≤n
 ·by_cases h2:n≤hi
  ·repeat' (first
    | refine ZY ?_
    | refine zo rfl (by assumption) ?_|refine zm rfl (by assumption) ?_|refine zl rfl (fun _=>?_) (fun _=>?_)|refine zj rfl (fun _=>?_) (fun _=>?_)
    | (refine zc ?_;refine WE ?_))
   exact arz (q:=⟨congrArg (fun z=>AV.c (B z)) (by unfold outB;rw[decide_eq_false (by omega),decide_eq_false (by omega)];rfl),rfl⟩)
  ·repeat' (first
    | refine ZY ?_
    | refine zo rfl (by assumption) ?_|refine zm rfl (by assumption) ?_|refine zl rfl (fun _=>?_) (fun _=>?_)|refine zj rfl (fun _=>?_) (fun _=>?_)
    | (refine zc ?_;refine WE ?_))
   exact arz (q:=⟨congrArg (fun z=>AV.c (B z)) (by unfold outB;rw[decide_eq_true (show hi < n by omega),Bool.or_true];rfl),rfl⟩)
 ·repeat' (first
   | refine ZY ?_
   | refine zo rfl (by assumption) ?_|refine zm rfl (by assumption) ?_|refine zl rfl (fun _=>?_) (fun _=>?_)|refine zj rfl (fun _=>?_) (fun _=>?_)
   | (refine zc ?_;refine WE ?_))
  exact arz (q:=⟨congrArg (fun z=>AV.c (B z)) (by unfold outB;rw[decide_eq_true (show n < lo by omega)];rfl),rfl⟩)
theorem zI5 (n lo hi:Int):ACalls Tryz.prog 144 [.c (I n),.c (I lo),.c (I hi)] [] fun u H=>u = .c (B (!outB n lo hi))∧H = []:=by
 refine zf (N:=15) Tryz.func144 rfl rfl (by simp) fun E hE=>?_
 by_cases h1:lo≤n
 ·by_cases h2:n≤hi
  ·repeat' (first
    | refine ZY ?_
    | refine zo rfl (by assumption) ?_|refine zm rfl (by assumption) ?_|refine zl rfl (fun _=>?_) (fun _=>?_)|refine zj rfl (fun _=>?_) (fun _=>?_)
    | (refine zc ?_;refine WE ?_))
   exact arz (q:=⟨congrArg (fun z=>AV.c (B z)) (by unfold outB;rw[decide_eq_false (by omega),decide_eq_false (by omega)];rfl),rfl⟩)
  ·repeat' (first
    | refine ZY ?_
    | refine zo rfl (by assumption) ?_|refine zm rfl (by assumption) ?_|refine zl rfl (fun _=>?_) (fun _=>?_)|refine zj rfl (fun _=>?_) (fun _=>?_)
    | (refine zc ?_;refine WE ?_))
   exact arz (q:=⟨congrArg (fun z=>AV.c (B z)) (by unfold outB;rw[decide_eq_true (show hi < n by omega),Bool.or_true];rfl),rfl⟩)
 ·repeat' (first
   | refine ZY ?_
   | refine zo rfl (by assumption) ?_|refine zm rfl (by assumption) ?_|refine zl rfl (fun _=>?_) (fun _=>?_)|refine zj rfl (fun _=>?_) (fun _=>?_)
   | (refine zc ?_;refine WE ?_))
  exact arz (q:=⟨congrArg (fun z=>AV.c (B z)) (by unfold outB;rw[decide_eq_true (show n < lo by omega)];rfl),rfl⟩)
theorem zi7 (n:Int):ACalls Tryz.prog 93 [.c (I n)] [] fun u H=>u = .c (B (moB n))∧H = []:=by
 refine zf (N:=5) Tryz.func93 rfl rfl (by simp) fun E hE=>?_
 repeat' (first
  | refine ZY ?_
  | refine zo rfl (by assumption) ?_|refine zm rfl (by assumption) ?_|refine zl rfl (fun _=>?_) (fun _=>?_)|refine zj rfl (fun _=>?_) (fun _=>?_)
  | (refine zc (id:=1) ?_
     refine WO ?_
     refine ze rfl (efk (c:=fun _=>zz12 _ _ _)) ?_
     rintro _ _ ⟨_,_,_,⟨rfl,rfl⟩,hF,hH⟩
     (refine NST hF hH ?_;clear hF hH;rintro rfl rfl)
     refine WE ?_)
  | (refine zc ?_;refine WE ?_))
 exact arz (q:=⟨rfl,rfl⟩)
theorem zx18 (s:List UInt8) (c:UInt8):ACalls Tryz.prog 238 [.c (T s),.c (T [c])] [] fun u H=>u = .c (I (idxB c s 0))∧H = []:=by
 refine zf (N:=143) Tryz.func238 rfl rfl (by simp) fun E hE=>?_
 have h1:(([c]:List UInt8).length:Int)=1:=rfl
 by_cases hq:[c]=s
 ·refine WA ?_
  refine WA ?_
  refine ZR ?_
  iterate 5 refine WX1 ?_
  first|refine ZP (zJ (a:=[c]) (b:=s) (decide_eq_true hq) rfl Tryz.underlying9 rfl rfl) ?_|refine ZS ?_
  refine WE ?_
  refine zb rfl ?_
  refine WA ?_
  exact arz (q:=⟨by subst hq;simp[idxB],rfl⟩)
 ·refine WA ?_
  refine WA ?_
  refine ZR ?_
  iterate 5 refine WX1 ?_
  first|refine ZP (zJ (a:=[c]) (b:=s) (decide_eq_false hq) rfl Tryz.underlying9 rfl rfl) ?_|refine ZS ?_
  refine WE ?_
  refine za rfl ?_
  refine WA ?_
  refine zb rfl ?_
  refine ZR ?_
  iterate 2 refine WX1 ?_
  refine ZA (zb2 (i:=0) rfl Tryz.underlying9 rfl rfl rfl rfl) ?_
  refine ze rfl (efk (c:=fun _=>zG17 s c)) ?_
  rintro _ _ ⟨_,_,_,⟨rfl,rfl⟩,hF,hH⟩
  (refine NST hF hH ?_;clear hF hH;rintro rfl rfl)
  refine WE ?_
  exact arz (q:=⟨rfl,rfl⟩)
theorem zS7 (s:List UInt8) (c:UInt8):ACalls Tryz.prog 228 [.c (T s),.c (T [c])] [] fun u H=>u = .c (I (idxB c s 0))∧H = []:=by
 refine zf (N:=8) Tryz.func228 rfl rfl (by simp) fun E hE=>?_
 repeat' (first
  | refine ZY ?_
  | refine zo rfl (by assumption) ?_|refine zm rfl (by assumption) ?_|refine zl rfl (fun _=>?_) (fun _=>?_)|refine zj rfl (fun _=>?_) (fun _=>?_)
  | (refine zc (id:=1) ?_
     refine WO ?_
     refine ze rfl (efk (c:=fun _=>zx18 s c)) ?_
     rintro _ _ ⟨_,_,_,⟨rfl,rfl⟩,hF,hH⟩
     (refine NST hF hH ?_;clear hF hH;rintro rfl rfl)
     refine WE ?_)
  | (refine zc ?_;refine WE ?_))
 exact arz (q:=⟨rfl,rfl⟩)
theorem zO5 (s:List UInt8) (c:UInt8):ACalls Tryz.prog 147 [.c (T s),.c (T [c])] [] fun u H=>u = .c (B (s.contains c))∧H = []:=by
 refine zf (N:=9) Tryz.func147 rfl rfl (by simp) fun E hE=>?_
 by_cases hs:0≤idxB c s 0
 ·repeat' (first
   | refine ZY ?_
   | refine zo rfl (by assumption) ?_|refine zm rfl (by assumption) ?_|refine zl rfl (fun _=>?_) (fun _=>?_)|refine zj rfl (fun _=>?_) (fun _=>?_)
   | (refine zc (id:=1) ?_
      refine WO ?_
      refine ze rfl (efk (c:=fun _=>zS7 s c)) ?_
      rintro _ _ ⟨_,_,_,⟨rfl,rfl⟩,hF,hH⟩
      (refine NST hF hH ?_;clear hF hH;rintro rfl rfl)
      refine WE ?_)
   | (refine zc ?_;refine WE ?_))
  exact arz (q:=⟨congrArg (fun z=>AV.c (B z)) (List.contains_iff_mem.2 (idxB_neg.1 hs)).symm,rfl⟩)
 ·repeat' (first
   | refine ZY ?_
   | refine zo rfl (by assumption) ?_|refine zm rfl (by assumption) ?_|refine zl rfl (fun _=>?_) (fun _=>?_)|refine zj rfl (fun _=>?_) (fun _=>?_)
   | (refine zc (id:=1) ?_
      refine WO ?_
      refine ze rfl (efk (c:=fun _=>zS7 s c)) ?_
      rintro _ _ ⟨_,_,_,⟨rfl,rfl⟩,hF,hH⟩
      (refine NST hF hH ?_;clear hF hH;rintro rfl rfl)
      refine WE ?_)
   | (refine zc ?_;refine WE ?_))
  refine arz (q:=⟨congrArg (fun z=>AV.c (B z)) ?_,rfl⟩)
  exact(Bool.eq_false_iff.2 fun h=>hs (idxB_neg.2 (List.contains_iff_mem.1 h))).symm
theorem zi5 (s:List UInt8) (hl:s.length≤1000000000):ACalls Tryz.prog 82 [.c (T s)] [] fun u H=>u = .c (B (keyB s))∧H = []:=by
 refine zf (N:=16) Tryz.func82 rfl rfl (by simp) fun E hE=>?_
 cases s with
 | nil=>
  have e0:(!outB (([]:List UInt8).length:Int) 1 40)=false:=by decide
  repeat' (first
   | refine ZY ?_
   | refine zo rfl (by assumption) ?_|refine zm rfl (by assumption) ?_|refine zl rfl (fun _=>?_) (fun _=>?_)|refine zj rfl (fun _=>?_) (fun _=>?_)
   | (refine zc (id:=1) ?_
      refine WO ?_
      refine ze rfl (efk (c:=fun _=>zz12 _ _ _)) ?_
      rintro _ _ ⟨_,_,_,⟨rfl,rfl⟩,hF,hH⟩
      rw[e0] at hF
      (refine NST hF hH ?_;clear hF hH;rintro rfl rfl)
      refine WO ?_
      first|refine ZS ?_|(refine G1 rfl ?_;refine zT3 rfl rfl (by decide) ZFALSE ?_)|skip
      refine WO ?_
      first|refine ZS ?_|(refine G1 rfl ?_;refine zT3 rfl rfl (by decide) ZFALSE ?_)|skip
      refine WE ?_)
   | (refine zc ?_;refine WE ?_))
  exact arz (q:=⟨rfl,rfl⟩)
 | cons b r=>
  obtain⟨q1,hq1⟩:∃q,(!outB ((b :: r).length:Int) 1 40)=q:=⟨_,rfl⟩
  have e1:decide ((b :: r).length≤40)=q1:=by
   rw[←hq1]
   unfold outB
   rw[decide_eq_false (show ¬((b :: r).length:Int) < 1 by simp only[List.length_cons];omega),Bool.false_or]
   by_cases h:(b :: r).length≤40
   ·rw[decide_eq_true h,decide_eq_false (by omega)];rfl
   ·rw[decide_eq_false h,decide_eq_true (by omega)];rfl
  obtain⟨q2,hq2⟩:∃q,smallL.contains b=q:=⟨_,rfl⟩
  obtain⟨q,hq⟩:∃q,decide (trB keyL (b :: r) = [])=q:=⟨_,rfl⟩
  rw[zI2,e1,hq2,hq]
  cases q1
  ·repeat' (first
    | refine ZY ?_
    | refine zo rfl (by assumption) ?_|refine zm rfl (by assumption) ?_|refine zl rfl (fun _=>?_) (fun _=>?_)|refine zj rfl (fun _=>?_) (fun _=>?_)
    | (refine zc (id:=1) ?_
       refine WO ?_
       refine ze rfl (efk (c:=fun _=>zz12 _ _ _)) ?_
       rintro _ _ ⟨_,_,_,⟨rfl,rfl⟩,hF,hH⟩
       rw[hq1] at hF
       (refine NST hF hH ?_;clear hF hH;rintro rfl rfl)
       refine WO ?_
       first|refine ZS ?_|(refine G1 rfl ?_;refine zT3 rfl rfl (by decide) ZFALSE ?_)|skip
       refine WO ?_
       first|refine ZS ?_|(refine G1 rfl ?_;refine zT3 rfl rfl (by decide) ZFALSE ?_)|skip
       refine WE ?_)
    | (refine zc ?_;refine WE ?_))
   exact arz (q:=⟨rfl,rfl⟩)
  cases q2
  ·repeat' (first
    | refine ZY ?_
    | refine zo rfl (by assumption) ?_|refine zm rfl (by assumption) ?_|refine zl rfl (fun _=>?_) (fun _=>?_)|refine zj rfl (fun _=>?_) (fun _=>?_)
    | (refine zc (id:=1) ?_
       refine WO ?_
       refine ze rfl (efk (c:=fun _=>zz12 _ _ _)) ?_
       rintro _ _ ⟨_,_,_,⟨rfl,rfl⟩,hF,hH⟩
       rw[hq1] at hF
       (refine NST hF hH ?_;clear hF hH;rintro rfl rfl)
       iterate 2 refine WX1 ?_
       first|refine ZP (zc3 (i:=0) (j:=1) rfl Tryz.underlying9 rfl (.inl ⟨rfl,rfl⟩) (.inr ⟨_,_,_,rfl,rfl,rfl⟩) (by first|(simp;done)|(simp;omega)) (by first|(simp;done)|(simp;omega))) ?_|refine ZS ?_
       first|refine ZS ?_|(refine G1 rfl ?_;refine ze rfl (efk (c:=fun _=>zO5 smallL b)) ?_;rintro _ _ ⟨_,_,_,⟨rfl,rfl⟩,hF,hH⟩;rw[hq2] at hF;(refine NST hF hH ?_;clear hF hH;rintro rfl rfl))|skip
       refine WO ?_
       first|refine ZS ?_|(refine G1 rfl ?_;refine zT3 rfl rfl (by decide) ZFALSE ?_)|skip
       refine WE ?_)
    | (refine zc ?_;refine WE ?_))
   exact arz (q:=⟨rfl,rfl⟩)
  ·repeat' (first
    | refine ZY ?_
    | refine zo rfl (by assumption) ?_|refine zm rfl (by assumption) ?_|refine zl rfl (fun _=>?_) (fun _=>?_)|refine zj rfl (fun _=>?_) (fun _=>?_)
    | (refine zc (id:=1) ?_
       refine WO ?_
       refine ze rfl (efk (c:=fun _=>zz12 _ _ _)) ?_
       rintro _ _ ⟨_,_,_,⟨rfl,rfl⟩,hF,hH⟩
       rw[hq1] at hF
       (refine NST hF hH ?_;clear hF hH;rintro rfl rfl)
       iterate 2 refine WX1 ?_
       first|refine ZP (zc3 (i:=0) (j:=1) rfl Tryz.underlying9 rfl (.inl ⟨rfl,rfl⟩) (.inr ⟨_,_,_,rfl,rfl,rfl⟩) (by first|(simp;done)|(simp;omega)) (by first|(simp;done)|(simp;omega))) ?_|refine ZS ?_
       first|refine ZS ?_|(refine G1 rfl ?_;refine ze rfl (efk (c:=fun _=>zO5 smallL b)) ?_;rintro _ _ ⟨_,_,_,⟨rfl,rfl⟩,hF,hH⟩;rw[hq2] at hF;(refine NST hF hH ?_;clear hF hH;rintro rfl rfl))|skip
       refine WO ?_
       first|refine ZS ?_|(refine G1 rfl ?_;refine ze rfl (efk (c:=fun _=>zc4 keyL (b :: r) (by decide) (by decide) hl)) ?_;rintro _ _ ⟨_,_,_,⟨rfl,rfl⟩,hF,hH⟩;(refine NST hF hH ?_;clear hF hH;rintro rfl rfl))|skip
       first|refine ZP (zJ (b:=[]) hq rfl Tryz.underlying9 rfl rfl) ?_|refine ZS ?_
       refine WE ?_)
    | (refine zc ?_;refine WE ?_))
   exact arz (q:=⟨rfl,rfl⟩)
end Go.Proofs.YtophoepbedlhjaaGreatDoor
