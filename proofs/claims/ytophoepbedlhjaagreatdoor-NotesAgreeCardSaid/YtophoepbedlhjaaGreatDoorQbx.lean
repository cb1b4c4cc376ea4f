/- NotesAgree: notes that are merged in any order are equal, what is written is read, and a note that is undone at once changes nothing. Conditions: none but those of the given statement. -/
import Derived.Test.YtophoepbedlhjaaGreatDoorQap
import Derived.Test.YtophoepbedlhjaaGreatDoorQbw
set_option linter.unusedSimpArgs false
set_option linter.unusedVariables false
namespace Go.Proofs.YtophoepbedlhjaaGreatDoor
open Go Go.ChangeShapes Go.WideShapes Go.ChangeAt Go.RowKit
set_option maxRecDepth 100000
theorem zU5 {W:World} (h:laidMetH Tryz.prog Rows.notesAgreeRow.laid W):TabX.X W [] []:=by
 rw[MakeChecks.laidMetH_plain _ _ _ (by kernel_rfl)] at h
 exact zR16 (laidMet.tail (laidMet.tail h))
abbrev zD:List (String × DataW Unit):=Rows.notesAgreeRow.laid
theorem zr4 (os:Os):((World.laidAll Tryz.prog os zD).forCall (fun _ _=>0) ⟨#[],#[.slice none 0 0],[]⟩).Shaped Tryz.prog:=World.shaped_of_ZipB (by kernel_rfl) (by kernel_rfl)
theorem zW5 (os:Os):laidMetH Tryz.prog zD ((World.laidAll Tryz.prog os zD).forCall (fun _ _=>0) ⟨#[],#[.slice none 0 0],[]⟩).memory:=by
 rw[MakeChecks.laidMetH_plain _ _ _ (by kernel_rfl)];exact laidMet_laidAll _ (by kernel_rfl) (by kernel_rfl)
theorem zO4:Rows.notesAgreeCard.stood.looks=Tryz.pinned.checked.prog.looks []:=by kernel_rfl
theorem zJ3 (H:Type) (enc:TypeId × Value→H) (W:World) (base:Nat) (args:Array Value) (ds gs:List (DataW H)) (before:List MemPlace)
    (hval:∀(j:Nat) t v,Tryz.f5.params[j]?=some t→args[j]?=some v→Value.okWide Tryz.prog W .any base t v)
    (hlaid:laidMetH Tryz.prog zD W) (hW:DataW.Whole enc Tryz.prog Tryz.f5.params.toList Rows.notesAgreeSpec.vars false W args.toList ds gs before) :
    Calls Tryz.prog 5 args W fun e W'=>∃v,e = .returned v∧Rows.notesAgreeSpec.post enc Tryz.prog Tryz.f5 false true false false W args v W':=by
 have hW':=hW
 obtain⟨p,q,hA0,hV,rfl,hfz,hnd⟩:=hW
 have hA:DataW.TrodAll enc Tryz.prog W 0 (fun _=>true) true Tryz.f5.params.toList args.toList ds p:=hA0
 rw[Tryz.params5] at hA hval
 obtain⟨v0,d0,rfl,rfl,h0⟩:=trodAll_one hA
 obtain⟨rfl,rfl⟩:=trodVars_none hV
 obtain⟨A,len,cap,rfl⟩:=okWide_slice Tryz.underlying22 (hval 0 22 v0 rfl rfl)
 obtain⟨fuel,hf⟩:=h0
 obtain⟨zs,hs,hg⟩:=zm14 hf
 refine(zt12 (.slice A len cap) zs hs (fun b=>b < W.heap.size) [] W (zU5 hlaid) (zp15 W) (fun x hx=>by rw[List.mem_singleton.1 hx];exact .c hg)).mono ?_
 rintro e W' ⟨u,H',ρ',S',rfl,rfl,-,-,hst,-⟩
 refine⟨_,rfl,[d0],[],p++[],[],p,[],hW',trodAll_mk1 (shut_bool Tryz.underlying4 true), ?_,by exact rfl,zS13 hst,fun h=>by cases h⟩
 refine trodAll_mk1 ⟨fuel,DataW.trod_stays Tryz.kids (fun {t e}=>Tryz.full t e) (fun h=>by cases h) (of_decide_eq_true (by kernel_rfl)) hf (fun q hq=>zz13 hst ?_) (fun q hq=>?_)⟩
 ·exact hW'.lt q (by simpa using hq)
 ·exact decide_eq_true (hW'.lt q (by simpa using hq))
theorem zY6:Tryz.checked.prog.inits.idxOf? 5=none:=by kernel_rfl
theorem zX6 (os:Os):Input.okWideB Tryz.checked.prog ((World.laidAll Tryz.prog os zD).forCall (fun _ _=>0) ⟨#[],#[.slice none 0 0],[]⟩) 5 ⟨#[],#[.slice none 0 0],[]⟩=true:=by kernel_rfl
theorem zW6 (H:Type) (enc:TypeId × Value→H) (os:Os):Rows.notesAgreeSpec.preB enc Tryz.checked.prog Tryz.f5 Rows.notesAgreeRow.domain false ((World.laidAll Tryz.prog os zD).forCall (fun _ _=>0) ⟨#[],#[.slice none 0 0],[]⟩).memory #[.slice none 0 0] 8=true:=by kernel_rfl
theorem zV6 (H:Type) (enc:TypeId × Value→H) (os:Os):Rows.notesAgreeSpec.sizedB enc Tryz.checked.prog Tryz.f5 false ((World.laidAll Tryz.prog os zD).forCall (fun _ _=>0) ⟨#[],#[.slice none 0 0],[]⟩).memory #[.slice none 0 0] 8=true:=by kernel_rfl
set_option maxRecDepth 100000 in
theorem zs4 (os:Os) (started:os.Started) (H:Type) (enc:TypeId × Value→H) :
    ReturnsInHanded {} Tryz.checked os 5 .any (fun w args=>(Rows.notesAgreeSpec.pre enc Tryz.prog Tryz.f5 Rows.notesAgreeRow.domain false w args∧laidMetH Tryz.prog zD w)∧sizedMet enc Tryz.prog Tryz.f5 (OpenSpec.ofChange Rows.notesAgreeSpec) false w args)
     (Rows.notesAgreeSpec.post enc Tryz.prog Tryz.f5 false true false false):=by
 refine returnsInHanded_of_change_and (C:=Tryz.checked) (X:=fun w _=>laidMetH Tryz.prog zD w) (fun _ _ _ hh h=>h.of_heap hh) Tryz.own started zY6 Tryz.func5
  (ChangeSpec.witness_shaped (enc:=enc) (C:=Tryz.checked) (os:=os) (X:=fun w _=>laidMetH Tryz.prog zD w) false (World.laidAll Tryz.prog os zD) #[.slice none 0 0] 8 (World.laidAll_os _ _ _)
   (zr4 os) (zX6 os) (zW6 H enc os) (zV6 H enc os) (zW5 os)) ?_
 intro W base args ds gs before hval hW h1 h2 h3 h4
 exact zJ3 H enc W base args ds gs before hval (by first|exact h1|exact h2|exact h3|exact h4) hW
theorem ze7:(Rows.notesAgreeRow.inPlace == Tryz.pinned.checked.prog.inPlace 5)=true:=by kernel_rfl
theorem zd7:(Rows.notesAgreeRow.unfollowed == Tryz.pinned.checked.prog.unfollowed 5)=true:=by kernel_rfl
theorem zc7:(Rows.notesAgreeRow.recurses == Tryz.pinned.checked.prog.recurses 5)=true:=by kernel_rfl
theorem zb7:(Rows.notesAgreeRow.named == Tryz.pinned.checked.prog.varsNamed 5)=true:=by kernel_rfl
theorem za7:(Rows.notesAgreeRow.lifted == Tryz.pinned.checked.prog.liftsFinal)=true:=by kernel_rfl
theorem zZ6:(Tryz.pinned.checked.prog.make == some Rows.notesAgreeRow.make)=true:=by kernel_rfl
theorem zP4:joinedFacts Tryz.pinned.checked.prog 5 Tryz.f5 Rows.notesAgreeSpec Rows.notesAgreeRow=true:=by
 unfold joinedFacts
 rw[zi11,zm8,zT13,zU13,ze7,zd7,zc7,zb7,za7,zZ6]
 kernel_rfl
theorem notesAgree_named:Tryz.pinned.checked.prog.funcNamed Rows.notesAgreeRow.func=some 5:=by kernel_rfl
theorem zu5:Tryz.f5.isInstance Tryz.pinned.checked.prog Rows.notesAgreeRow.origin Rows.notesAgreeRow.targs:=of_decide_eq_true (by kernel_rfl)
theorem zs5:Tryz.f5.isWrapper Tryz.pinned.checked.prog Rows.notesAgreeRow.wrapper Rows.notesAgreeRow.mainSum:=by unfold Func.isWrapper;first|(rw[if_pos (by decide +kernel)];kernel_rfl)|(rw[if_neg (by decide +kernel)];exact⟨rfl,rfl⟩)
theorem zt5:Tryz.pinned.checked.prog.mainIs=some (Rows.notesAgreeCard.stood.harness.1,Rows.notesAgreeCard.stood.harness.2.toList):=by kernel_rfl
theorem zv5:false=Rows.notesAgreeRow.goesBy Tryz.pinned.checked.prog:=zB12 zU15 _
theorem zU6:Rows.notesAgreeRow.wfByText (OpenSpec.ofChange Rows.notesAgreeSpec)=true:=by kernel_rfl
theorem zV5:Rows.NotesAgreeSaid:=
 OpenClaim.holds_of_wide 5 Tryz.f5 rfl rfl rfl rfl rfl rfl rfl ⟨rfl,rfl,rfl,rfl,rfl⟩ rfl rfl rfl rfl rfl notesAgree_named Tryz.func5 zP4 zu5 zs5
  (fun os started H enc _=>zs4 os started H enc)
theorem notesAgree_holds:Rows.NotesAgreeCardSaid:=
 Claim7.holds_tied_plain_at .later [] Rows.notesAgreeCard.laidKinds true Rows.notesAgreeCard.stood.harness Rows.notesAgreeCard.stood.looks zV5 (fun _ h=>by cases h) zU6 (fun _ h=>by cases h) notesAgree_row_tie rfl ⟨rfl,rfl⟩ zt5 rfl
  (fun f fn hf hfn=>by
   obtain rfl:f=5:=Option.some.inj (notesAgree_named.symm.trans hf) |>.symm
   obtain rfl:fn=Tryz.f5:=(Option.some.inj (Tryz.func5.symm.trans hfn)).symm
   exact⟨zO4,fun j t ht=>by
    rw[Tryz.params5] at ht
    have hm:t∈[22]:=by simpa using Array.mem_of_getElem? ht
    have hall:([22].all fun u=>!Tryz.prog.wantsStandIn u)=true:=by kernel_rfl
    exact(show Tryz.prog.wantsStandIn t=false by simpa using List.all_eq_true.1 hall t hm)⟩)
  zv5
end Go.Proofs.YtophoepbedlhjaaGreatDoor
