/-
  FnStarts: whatever the arguments, the law returns true and they read as they did (the row's statement).
  Conditions: none of ours; what the row lists reads as the program's text lays it.
-/
import Derived.Test.YtjjonmhpgkahoaaGreatDoorS35
import Derived.Test.YtjjonmhpgkahoaaGreatDoorS38
set_option linter.unusedSimpArgs false
set_option linter.unusedVariables false
namespace Go.Proofs.YtjjonmhpgkahoaaGreatDoor
open Go.ChangeShapes Go.WideShapes Go.ChangeAt Go.RowKit Go.Joins
open Go.ChangeMaps (open_string shut_string)
open Ax
set_option maxRecDepth 100000
theorem gl_st {W:World} (hsh:W.ShapedOpen Tryz.prog) (hl:laidMetH Tryz.prog Rows.fnStartsRow.laid W):Gl W:=by
 rw [MakeChecks.laidMetH_plain _ _ _ (by kernel_rfl)] at hl
 exact gl_of hsh hl (List.mem_of_getElem? (i:=1) rfl) (List.mem_of_getElem? (i:=2) rfl) (List.mem_of_getElem? (i:=0) rfl)
theorem lifted_st (os:Os) (started:os.Started) (H:Type) (enc:TypeId×Value→H) :
 ReturnsInHanded {} Tryz.checked os 3 .any (fun w args=>(Rows.fnStartsSpec.pre enc Tryz.prog Tryz.f3 [] false w args∧laidMetH Tryz.prog Rows.fnStartsRow.laid w)∧sizedMet enc Tryz.prog Tryz.f3 (OpenSpec.ofChange Rows.fnStartsSpec) false w args)
  (Rows.fnStartsSpec.post enc Tryz.prog Tryz.f3 false true false false):=by
 refine change_shaped_and (C:=Tryz.checked) (X:=fun w _=>laidMetH Tryz.prog Rows.fnStartsRow.laid w) (fun _ _ _ hh h=>h.of_heap hh) ownM started (by kernel_rfl) Tryz.func3
  (ChangeSpec.witness_shaped (enc:=enc) (C:=Tryz.checked) (os:=os) (X:=fun w _=>laidMetH Tryz.prog Rows.fnStartsRow.laid w) false (World.laidAll Tryz.prog os Rows.fnStartsRow.laid) #[.slice none 0 0] 8 (World.laidAll_os _ _ _)
    (World.shaped_of_ZipB (by kernel_rfl) (by kernel_rfl)) (by kernel_rfl) (by kernel_rfl) (by kernel_rfl)
    (by rw [MakeChecks.laidMetH_plain _ _ _ (by kernel_rfl)];exact laidMet_laidAll _ (by kernel_rfl) (by kernel_rfl))) ?_
 intro W base args ds gs before hval0 hW hsh hlaid
 have hval : ∀(j:Nat) t v,Tryz.f3.params[j]? =some t→args[j]? =some v→Value.okWide Tryz.prog W .any base t v:=hval0
 have hW':=hW
 obtain⟨p,q,hA0,hV,rfl,_,_⟩:=hW
 have hA:DataW.TrodAll enc Tryz.prog W 0 (fun _=>true) true Tryz.f3.params.toList args.toList ds p:=hA0
 rw [Tryz.params3] at hA hval
 have hlt:=DataW.TrodAll.lt hA
 obtain⟨v0,d0,rfl,rfl,h0⟩:=trodAll_one hA
 obtain⟨rfl,rfl⟩:=trodVars_none hV
 obtain⟨a0,n0,c0,rfl⟩:=okWide_slice Tryz.underlying22 (hval 0 22 v0 rfl rfl)
 obtain⟨l0,k0⟩:=open_arg ty_ok 6 flat_by h0
 obtain⟨x,rfl,hx⟩:=vok_by k0
 simp only [List.append_nil,List.append_assoc] at hW'
 have hl0 : ∀x∈p,x.block<W.heap.size:=fun x hx=>hlt x (by simp [hx])
 refine Calls.mono (law_trueB ok_l_FnStarts (args:=[.rsl [.i .u8] x]) (pre:=CbP x) rfl hx (gl_st hsh hlaid) (VOk.Rs (e:=e0 W) k0)) fun e W' ⟨he,hb⟩=>?_
 subst he
 exact⟨_,rfl,_,_,_,[],_,[],hW',trodAll_mk1 (shut_bool Tryz.underlying4 _),
  trodAll_mk1 (Below.trod laidOutM (by kernel_rfl) (of_decide_eq_true (by kernel_rfl)) h0 hb hl0),rfl,hb.frame _,fun h=>by cases h⟩
theorem band {a b:Bool} (h1:a=true) (h2:b=true):(a&&b)=true:=by rw [h1,h2];rfl
theorem cl0:(Rows.fnStartsRow.wf (OpenSpec.ofChange Rows.fnStartsSpec))=true:=by kernel_rfl
theorem cl1:(laidOutB Tryz.checked.prog)=true:=by kernel_rfl
theorem cl2:(mapsRowed Tryz.checked.prog)=true:=by kernel_rfl
theorem cl3:(Tryz.f3.params.all (Tryz.checked.prog.readableRec ·))=true:=by kernel_rfl
theorem cl4:(namedTie Tryz.checked.prog Rows.fnStartsRow.named Rows.fnStartsSpec.vars)=true:=by kernel_rfl
theorem cl5:(Rows.fnStartsRow.stops==[])=true:=by kernel_rfl
theorem cl6:(Tryz.checked.prog.stops==[])=true:=by kernel_rfl
theorem cl7:(Rows.fnStartsRow.knobs==[])=true:=by kernel_rfl
theorem cl8:(Tryz.checked.prog.stopKnobs==[])=true:=by kernel_rfl
theorem cl9:(Rows.fnStartsRow.inPlace==Tryz.checked.prog.inPlace 3)=true:=by kernel_rfl
theorem cl10:(Rows.fnStartsRow.unfollowed==Tryz.checked.prog.unfollowed 3)=true:=by kernel_rfl
theorem cl11:(Rows.fnStartsRow.recurses==Tryz.checked.prog.recurses 3)=true:=by kernel_rfl
theorem cl12:(Rows.fnStartsRow.named==Tryz.checked.prog.varsNamed 3)=true:=by kernel_rfl
theorem cl13:(Rows.fnStartsRow.maps==(Tryz.f3.params.toList++Rows.fnStartsSpec.plain.varTypes Tryz.checked.prog).any (Tryz.checked.prog.mapsRec ·))=true:=by kernel_rfl
theorem cl14:(Rows.fnStartsRow.ifaces==(Tryz.f3.params.toList++Rows.fnStartsSpec.plain.varTypes Tryz.checked.prog).any (Tryz.checked.prog.ifacesRec ·))=true:=by kernel_rfl
theorem cl15:(Rows.fnStartsRow.mapsOut==Tryz.checked.prog.mapsAmong Tryz.f3.resultTypes.toList)=true:=by kernel_rfl
theorem cl16:(Rows.fnStartsRow.loops==(Tryz.f3.params.toList++Rows.fnStartsSpec.plain.varTypes Tryz.checked.prog).any (Tryz.checked.prog.loopsFrom ·))=true:=by kernel_rfl
theorem cl17:(Rows.fnStartsRow.wideKeys==(Tryz.f3.params.toList++Rows.fnStartsSpec.plain.varTypes Tryz.checked.prog++Tryz.f3.resultTypes.toList).any (Tryz.checked.prog.wideKeysFrom ·))=true:=by kernel_rfl
theorem cl18:(Rows.fnStartsSpec.vars.all (Tryz.checked.prog.varReadable ·))=true:=by kernel_rfl
theorem cl19:(Tryz.f3.resultTypes.all (fun t=>Tryz.checked.prog.readableRec t&&decide (t<Tryz.checked.prog.types.size)))=true:=by kernel_rfl
theorem cl20:(Rows.fnStartsRow.ifacesOut==Tryz.f3.resultTypes.toList.any (Tryz.checked.prog.ifacesRec ·))=true:=by kernel_rfl
theorem cl21:(Rows.fnStartsRow.loopsOut==Tryz.f3.resultTypes.toList.any (Tryz.checked.prog.loopsFrom ·))=true:=by kernel_rfl
theorem cl22:(Rows.fnStartsRow.plainKeys==Tryz.checked.prog.plainKeys)=true:=by kernel_rfl
theorem cl23:(Rows.fnStartsRow.shortTexts.isNone)=true:=by kernel_rfl
theorem cl24:(Tryz.checked.prog.stopsHeard)=true:=by kernel_rfl
theorem cl25:(Tryz.checked.prog.mayEnter)=true:=by kernel_rfl
theorem cl26:(Rows.fnStartsRow.lifted==Tryz.checked.prog.liftsFinal)=true:=by kernel_rfl
theorem cl27:(Tryz.checked.prog.make==some Rows.fnStartsRow.make)=true:=by kernel_rfl
theorem cl29:(Rows.fnStartsRow.pinned==Rows.fnStartsRow.pinnedBy)=true:=by kernel_rfl
theorem cl30:(Rows.fnStartsRow.veiled==(Tryz.f3.params.toList++Rows.fnStartsSpec.plain.varTypes Tryz.checked.prog++Tryz.f3.resultTypes.toList).any (Tryz.checked.prog.veiledRec ·))=true:=by kernel_rfl
theorem cl31:(Rows.fnStartsRow.veiledFits Tryz.checked.prog Tryz.f3.params.toList (Tryz.f3.params.toList++Rows.fnStartsSpec.plain.varTypes Tryz.checked.prog++Tryz.f3.resultTypes.toList))=true:=by kernel_rfl
theorem cl_FnStarts:joinedFacts Tryz.checked.prog 3 Tryz.f3 Rows.fnStartsSpec Rows.fnStartsRow=true:=by
 unfold joinedFacts
 refine band (band (band (band (band (band (band (band (band (band (band (band (band (band (band (band (band (band (band (band (band (band (band (band (band (band (band (band (band (band (band (cl0) cl1) cl2) cl3) cl4) cl5) cl6) cl7) cl8) cl9) cl10) cl11) cl12) cl13) cl14) cl15) cl16) cl17) cl18) cl19) cl20) cl21) cl22) cl23) cl24) cl25) cl26) cl27) ?_) cl29) cl30) cl31
 kernel_rfl
theorem fnStarts_holds:Rows.FnStartsSaid:=
 OpenClaim.holds_of_wide 3 Tryz.f3 rfl rfl rfl rfl rfl rfl rfl ⟨rfl,rfl,rfl,rfl,rfl⟩ rfl rfl rfl rfl rfl (by kernel_rfl) Tryz.func3 cl_FnStarts
  (of_decide_eq_true (by kernel_rfl)) (by unfold Func.isWrapper;first | (rw [if_pos (by decide +kernel)];kernel_rfl) | (rw [if_neg (by decide +kernel)];exact⟨rfl,rfl⟩))
  (fun os started H enc _=>lifted_st os started H enc)
#print axioms fnStarts_holds
end Go.Proofs.YtjjonmhpgkahoaaGreatDoor
