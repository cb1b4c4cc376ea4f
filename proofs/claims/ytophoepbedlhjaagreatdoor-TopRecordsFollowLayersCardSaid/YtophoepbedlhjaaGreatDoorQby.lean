/- TopRecordsFollowLayers: a job that has a note for each layer of a part is done when all are printed, and not before. Conditions: none but those of the given statement. -/
import Derived.Test.YtophoepbedlhjaaGreatDoorQar
import Derived.Test.YtophoepbedlhjaaGreatDoorQbx
set_option linter.unusedSimpArgs false
set_option linter.unusedVariables false
namespace Go.Proofs.YtophoepbedlhjaaGreatDoor
open Go Go.ChangeShapes Go.WideShapes Go.ChangeAt Go.RowKit
set_option maxRecDepth 100000
abbrev zg:List (String × DataW Unit):=Rows.topRecordsFollowLayersRow.laid
theorem zM1 (os:Os):((World.laidAll Tryz.prog os zg).forCall (fun _ _=>0) ⟨#[],#[.slice none 0 0],[]⟩).Shaped Tryz.prog:=World.shaped_of_ZipB (by kernel_rfl) (by kernel_rfl)
theorem zm2 (os:Os):laidMetH Tryz.prog zg ((World.laidAll Tryz.prog os zg).forCall (fun _ _=>0) ⟨#[],#[.slice none 0 0],[]⟩).memory:=by
 rw[MakeChecks.laidMetH_plain _ _ _ (by kernel_rfl)];exact laidMet_laidAll _ (by kernel_rfl) (by kernel_rfl)
theorem zT1:Rows.topRecordsFollowLayersCard.stood.looks=Tryz.pinned.checked.prog.looks []:=by kernel_rfl
theorem zs1 (H:Type) (enc:TypeId × Value→H) (W:World) (base:Nat) (args:Array Value) (ds gs:List (DataW H)) (before:List MemPlace)
    (hval:∀(j:Nat) t v,Tryz.f3.params[j]?=some t→args[j]?=some v→Value.okWide Tryz.prog W .any base t v)
    (hlaid:laidMetH Tryz.prog zg W) (hW:DataW.Whole enc Tryz.prog Tryz.f3.params.toList Rows.topRecordsFollowLayersSpec.vars false W args.toList ds gs before) :
    Calls Tryz.prog 3 args W fun e W'=>∃v,e = .returned v∧Rows.topRecordsFollowLayersSpec.post enc Tryz.prog Tryz.f3 false true false false W args v W':=by
 have hW':=hW
 obtain⟨p,q,hA0,hV,rfl,hfz,hnd⟩:=hW
 have hA:DataW.TrodAll enc Tryz.prog W 0 (fun _=>true) true Tryz.f3.params.toList args.toList ds p:=hA0
 rw[Tryz.params3] at hA hval
 obtain⟨v0,d0,rfl,rfl,h0⟩:=trodAll_one hA
 obtain⟨rfl,rfl⟩:=trodVars_none hV
 obtain⟨A,len,cap,rfl⟩:=okWide_slice Tryz.underlying22 (hval 0 22 v0 rfl rfl)
 obtain⟨fuel,hf⟩:=h0
 obtain⟨zs,hs,hg⟩:=arg_ints hf
 refine(za8 (.slice A len cap) zs hs (fun b=>b < W.heap.size) [] W  (rh_none W) (fun x hx=>by rw[List.mem_singleton.1 hx];exact .c hg)).mono ?_
 rintro e W' ⟨u,H',ρ',S',rfl,rfl,-,-,hst,-⟩
 refine⟨_,rfl,[d0],[],p++[],[],p,[],hW',trodAll_mk1 (shut_bool Tryz.underlying4 true), ?_,by exact rfl,kept_all hst,fun h=>by cases h⟩
 refine trodAll_mk1 ⟨fuel,DataW.trod_stays Tryz.kids (fun {t e}=>Tryz.full t e) (fun h=>by cases h) (of_decide_eq_true (by kernel_rfl)) hf (fun q hq=>same_all hst ?_) (fun q hq=>?_)⟩
 ·exact hW'.lt q (by simpa using hq)
 ·exact decide_eq_true (hW'.lt q (by simpa using hq))
theorem zy2:Tryz.checked.prog.inits.idxOf? 3=none:=by kernel_rfl
theorem zx2 (os:Os):Input.okWideB Tryz.checked.prog ((World.laidAll Tryz.prog os zg).forCall (fun _ _=>0) ⟨#[],#[.slice none 0 0],[]⟩) 3 ⟨#[],#[.slice none 0 0],[]⟩=true:=by kernel_rfl
theorem zw2 (H:Type) (enc:TypeId × Value→H) (os:Os):Rows.topRecordsFollowLayersSpec.preB enc Tryz.checked.prog Tryz.f3 Rows.topRecordsFollowLayersRow.domain false ((World.laidAll Tryz.prog os zg).forCall (fun _ _=>0) ⟨#[],#[.slice none 0 0],[]⟩).memory #[.slice none 0 0] 8=true:=by kernel_rfl
theorem zv2 (H:Type) (enc:TypeId × Value→H) (os:Os):Rows.topRecordsFollowLayersSpec.sizedB enc Tryz.checked.prog Tryz.f3 false ((World.laidAll Tryz.prog os zg).forCall (fun _ _=>0) ⟨#[],#[.slice none 0 0],[]⟩).memory #[.slice none 0 0] 8=true:=by kernel_rfl
set_option maxRecDepth 100000 in
theorem zN1 (os:Os) (started:os.Started) (H:Type) (enc:TypeId × Value→H) :
    ReturnsInHanded {} Tryz.checked os 3 .any (fun w args=>(Rows.topRecordsFollowLayersSpec.pre enc Tryz.prog Tryz.f3 Rows.topRecordsFollowLayersRow.domain false w args∧laidMetH Tryz.prog zg w)∧sizedMet enc Tryz.prog Tryz.f3 (OpenSpec.ofChange Rows.topRecordsFollowLayersSpec) false w args)
     (Rows.topRecordsFollowLayersSpec.post enc Tryz.prog Tryz.f3 false true false false):=by
 refine returnsInHanded_of_change_and (C:=Tryz.checked) (X:=fun w _=>laidMetH Tryz.prog zg w) (fun _ _ _ hh h=>h.of_heap hh) Tryz.own started zy2 Tryz.func3
  (ChangeSpec.witness_shaped (enc:=enc) (C:=Tryz.checked) (os:=os) (X:=fun w _=>laidMetH Tryz.prog zg w) false (World.laidAll Tryz.prog os zg) #[.slice none 0 0] 8 (World.laidAll_os _ _ _)
   (zM1 os) (zx2 os) (zw2 H enc os) (zv2 H enc os) (zm2 os)) ?_
 intro W base args ds gs before hval hW h1 h2 h3 h4
 exact zs1 H enc W base args ds gs before hval (by first|exact h1|exact h2|exact h3|exact h4) hW
theorem zE2:(Rows.topRecordsFollowLayersRow.inPlace == Tryz.pinned.checked.prog.inPlace 3)=true:=by kernel_rfl
theorem zD2:(Rows.topRecordsFollowLayersRow.unfollowed == Tryz.pinned.checked.prog.unfollowed 3)=true:=by kernel_rfl
theorem zC2:(Rows.topRecordsFollowLayersRow.recurses == Tryz.pinned.checked.prog.recurses 3)=true:=by kernel_rfl
theorem zB2:(Rows.topRecordsFollowLayersRow.named == Tryz.pinned.checked.prog.varsNamed 3)=true:=by kernel_rfl
theorem zA2:(Rows.topRecordsFollowLayersRow.lifted == Tryz.pinned.checked.prog.liftsFinal)=true:=by kernel_rfl
theorem zz2:(Tryz.pinned.checked.prog.make == some Rows.topRecordsFollowLayersRow.make)=true:=by kernel_rfl
theorem zU1:joinedFacts Tryz.pinned.checked.prog 3 Tryz.f3 Rows.topRecordsFollowLayersSpec Rows.topRecordsFollowLayersRow=true:=by
 unfold joinedFacts
 rw[zP9,zo7,kc_heard,kc_enter,zE2,zD2,zC2,zB2,zA2,zz2]
 kernel_rfl
theorem topRecordsFollowLayers_named:Tryz.pinned.checked.prog.funcNamed Rows.topRecordsFollowLayersRow.func=some 3:=by kernel_rfl
theorem zf2:Tryz.f3.isInstance Tryz.pinned.checked.prog Rows.topRecordsFollowLayersRow.origin Rows.topRecordsFollowLayersRow.targs:=of_decide_eq_true (by kernel_rfl)
theorem zd2:Tryz.f3.isWrapper Tryz.pinned.checked.prog Rows.topRecordsFollowLayersRow.wrapper Rows.topRecordsFollowLayersRow.mainSum:=by unfold Func.isWrapper;first|(rw[if_pos (by decide +kernel)];kernel_rfl)|(rw[if_neg (by decide +kernel)];exact⟨rfl,rfl⟩)
theorem ze2:Tryz.pinned.checked.prog.mainIs=some (Rows.topRecordsFollowLayersCard.stood.harness.1,Rows.topRecordsFollowLayersCard.stood.harness.2.toList):=by kernel_rfl
theorem zg2:false=Rows.topRecordsFollowLayersRow.goesBy Tryz.pinned.checked.prog:=zf11 kc_goes _
theorem zu2:Rows.topRecordsFollowLayersRow.wfByText (OpenSpec.ofChange Rows.topRecordsFollowLayersSpec)=true:=by kernel_rfl
theorem zl2:Rows.TopRecordsFollowLayersSaid:=
 OpenClaim.holds_of_wide 3 Tryz.f3 rfl rfl rfl rfl rfl rfl rfl ⟨rfl,rfl,rfl,rfl,rfl⟩ rfl rfl rfl rfl rfl topRecordsFollowLayers_named Tryz.func3 zU1 zf2 zd2
  (fun os started H enc _=>zN1 os started H enc)
theorem topRecordsFollowLayers_holds:Rows.TopRecordsFollowLayersCardSaid:=
 Claim7.holds_tied_plain_at .later [] Rows.topRecordsFollowLayersCard.laidKinds true Rows.topRecordsFollowLayersCard.stood.harness Rows.topRecordsFollowLayersCard.stood.looks zl2 (fun _ h=>by cases h) zu2 (fun _ h=>by cases h) topRecordsFollowLayers_row_tie rfl ⟨rfl,rfl⟩ ze2 rfl
  (fun f fn hf hfn=>by
   obtain rfl:f=3:=Option.some.inj (topRecordsFollowLayers_named.symm.trans hf) |>.symm
   obtain rfl:fn=Tryz.f3:=(Option.some.inj (Tryz.func3.symm.trans hfn)).symm
   exact⟨zT1,fun j t ht=>by
    rw[Tryz.params3] at ht
    have hm:t∈[22]:=by simpa using Array.mem_of_getElem? ht
    have hall:([22].all fun u=>!Tryz.prog.wantsStandIn u)=true:=by kernel_rfl
    exact(show Tryz.prog.wantsStandIn t=false by simpa using List.all_eq_true.1 hall t hm)⟩)
  zg2
end Go.Proofs.YtophoepbedlhjaaGreatDoor
