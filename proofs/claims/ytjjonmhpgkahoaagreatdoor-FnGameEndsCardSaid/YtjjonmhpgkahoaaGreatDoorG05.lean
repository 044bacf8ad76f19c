/-
  FnGameEnds: whatever the arguments, the law returns true and they read as they did (the row's statement).
  Conditions: none of ours; what the row lists reads as the program's text lays it.
-/
import Derived.Test.YtjjonmhpgkahoaaGreatDoorE45
import Derived.Test.YtjjonmhpgkahoaaGreatDoorG04
set_option linter.unusedSimpArgs false
set_option linter.unusedVariables false
namespace Go.Proofs.YtjjonmhpgkahoaaGreatDoor
open Go.ChangeShapes Go.WideShapes Go.ChangeAt Go.RowKit Go.Joins
open Go.ChangeMaps (open_string shut_string)
open Ax
set_option maxRecDepth 100000
theorem gl_ge {W:World} (hsh:W.ShapedOpen Tryz.prog) (hl:laidMetH Tryz.prog Rows.fnGameEndsRow.laid W):Gl W:=by
 rw [MakeChecks.laidMetH_plain _ _ _ (by kernel_rfl)] at hl
 exact gl_of hsh hl (List.mem_of_getElem? (i:=1) rfl) (List.mem_of_getElem? (i:=2) rfl) (List.mem_of_getElem? (i:=0) rfl)
theorem lifted_ge (os:Os) (started:os.Started) (H:Type) (enc:TypeId×Value→H) :
 ReturnsInHanded {} Tryz.checked os 4 .any (fun w args=>(Rows.fnGameEndsSpec.pre enc Tryz.prog Tryz.f4 [] false w args∧laidMetH Tryz.prog Rows.fnGameEndsRow.laid w)∧sizedMet enc Tryz.prog Tryz.f4 (OpenSpec.ofChange Rows.fnGameEndsSpec) false w args)
  (Rows.fnGameEndsSpec.post enc Tryz.prog Tryz.f4 false true false false):=by
 refine change_shaped_and (C:=Tryz.checked) (X:=fun w _=>laidMetH Tryz.prog Rows.fnGameEndsRow.laid w) (fun _ _ _ hh h=>h.of_heap hh) ownM started (by kernel_rfl) Tryz.func4
  (ChangeSpec.witness_shaped (enc:=enc) (C:=Tryz.checked) (os:=os) (X:=fun w _=>laidMetH Tryz.prog Rows.fnGameEndsRow.laid w) false (World.laidAll Tryz.prog os Rows.fnGameEndsRow.laid) #[.slice none 0 0] 8 (World.laidAll_os _ _ _)
    (World.shaped_of_ZipB (by kernel_rfl) (by kernel_rfl)) (by kernel_rfl) (by kernel_rfl) (by kernel_rfl)
    (by rw [MakeChecks.laidMetH_plain _ _ _ (by kernel_rfl)];exact laidMet_laidAll _ (by kernel_rfl) (by kernel_rfl))) ?_
 intro W base args ds gs before hval0 hW hsh hlaid
 have hval : ∀(j:Nat) t v,Tryz.f4.params[j]? =some t→args[j]? =some v→Value.okWide Tryz.prog W .any base t v:=hval0
 have hW':=hW
 obtain⟨p,q,hA0,hV,rfl,_,_⟩:=hW
 have hA:DataW.TrodAll enc Tryz.prog W 0 (fun _=>true) true Tryz.f4.params.toList args.toList ds p:=hA0
 rw [Tryz.params4] at hA hval
 have hlt:=DataW.TrodAll.lt hA
 obtain⟨v0,d0,rfl,rfl,h0⟩:=trodAll_one hA
 obtain⟨rfl,rfl⟩:=trodVars_none hV
 obtain⟨a0,n0,c0,rfl⟩:=okWide_slice Tryz.underlying22 (hval 0 22 v0 rfl rfl)
 obtain⟨l0,k0⟩:=open_arg ty_ok 6 flat_by h0
 obtain⟨x,rfl,hx⟩:=vok_by k0
 simp only [List.append_nil,List.append_assoc] at hW'
 have hl0 : ∀x∈p,x.block<W.heap.size:=fun x hx=>hlt x (by simp [hx])
 refine Calls.mono (law_trueB ok_l_FnGameEnds (args:=[.rsl [.i .u8] x]) (pre:=CbP x) rfl hx (gl_ge hsh hlaid) (VOk.Rs (e:=e0 W) k0)) fun e W' ⟨he,hb⟩=>?_
 subst he
 exact⟨_,rfl,_,_,_,[],_,[],hW',trodAll_mk1 (shut_bool Tryz.underlying4 _),
  trodAll_mk1 (Below.trod laidOutM (by kernel_rfl) (of_decide_eq_true (by kernel_rfl)) h0 hb hl0),rfl,hb.frame _,fun h=>by cases h⟩
theorem band {a b:Bool} (h1:a=true) (h2:b=true):(a&&b)=true:=by rw [h1,h2];rfl
theorem cl0:(Rows.fnGameEndsRow.wf (OpenSpec.ofChange Rows.fnGameEndsSpec))=true:=by kernel_rfl
theorem cl1:(laidOutB Tryz.checked.prog)=true:=by kernel_rfl
theorem cl2:(mapsRowed Tryz.checked.prog)=true:=by kernel_rfl
theorem cl3:(Tryz.f4.params.all (Tryz.checked.prog.readableRec ·))=true:=by kernel_rfl
theorem cl4:(namedTie Tryz.checked.prog Rows.fnGameEndsRow.named Rows.fnGameEndsSpec.vars)=true:=by kernel_rfl
theorem cl5:(Rows.fnGameEndsRow.stops==[])=true:=by kernel_rfl
theorem cl6:(Tryz.checked.prog.stops==[])=true:=by kernel_rfl
theorem cl7:(Rows.fnGameEndsRow.knobs==[])=true:=by kernel_rfl
theorem cl8:(Tryz.checked.prog.stopKnobs==[])=true:=by kernel_rfl
theorem cl9:(Rows.fnGameEndsRow.inPlace==Tryz.checked.prog.inPlace 4)=true:=by kernel_rfl
theorem cl10:(Rows.fnGameEndsRow.unfollowed==Tryz.checked.prog.unfollowed 4)=true:=by kernel_rfl
theorem cl11:(Rows.fnGameEndsRow.recurses==Tryz.checked.prog.recurses 4)=true:=by kernel_rfl
theorem cl12:(Rows.fnGameEndsRow.named==Tryz.checked.prog.varsNamed 4)=true:=by kernel_rfl
theorem cl13:(Rows.fnGameEndsRow.maps==(Tryz.f4.params.toList++Rows.fnGameEndsSpec.plain.varTypes Tryz.checked.prog).any (Tryz.checked.prog.mapsRec ·))=true:=by kernel_rfl
theorem cl14:(Rows.fnGameEndsRow.ifaces==(Tryz.f4.params.toList++Rows.fnGameEndsSpec.plain.varTypes Tryz.checked.prog).any (Tryz.checked.prog.ifacesRec ·))=true:=by kernel_rfl
theorem cl15:(Rows.fnGameEndsRow.mapsOut==Tryz.checked.prog.mapsAmong Tryz.f4.resultTypes.toList)=true:=by kernel_rfl
theorem cl16:(Rows.fnGameEndsRow.loops==(Tryz.f4.params.toList++Rows.fnGameEndsSpec.plain.varTypes Tryz.checked.prog).any (Tryz.checked.prog.loopsFrom ·))=true:=by kernel_rfl
theorem cl17:(Rows.fnGameEndsRow.wideKeys==(Tryz.f4.params.toList++Rows.fnGameEndsSpec.plain.varTypes Tryz.checked.prog++Tryz.f4.resultTypes.toList).any (Tryz.checked.prog.wideKeysFrom ·))=true:=by kernel_rfl
theorem cl18:(Rows.fnGameEndsSpec.vars.all (Tryz.checked.prog.varReadable ·))=true:=by kernel_rfl
theorem cl19:(Tryz.f4.resultTypes.all (fun t=>Tryz.checked.prog.readableRec t&&decide (t<Tryz.checked.prog.types.size)))=true:=by kernel_rfl
theorem cl20:(Rows.fnGameEndsRow.ifacesOut==Tryz.f4.resultTypes.toList.any (Tryz.checked.prog.ifacesRec ·))=true:=by kernel_rfl
theorem cl21:(Rows.fnGameEndsRow.loopsOut==Tryz.f4.resultTypes.toList.any (Tryz.checked.prog.loopsFrom ·))=true:=by kernel_rfl
theorem cl22:(Rows.fnGameEndsRow.plainKeys==Tryz.checked.prog.plainKeys)=true:=by kernel_rfl
theorem cl23:(Rows.fnGameEndsRow.shortTexts.isNone)=true:=by kernel_rfl
theorem cl24:(Tryz.checked.prog.stopsHeard)=true:=by kernel_rfl
theorem cl25:(Tryz.checked.prog.mayEnter)=true:=by kernel_rfl
theorem cl26:(Rows.fnGameEndsRow.lifted==Tryz.checked.prog.liftsFinal)=true:=by kernel_rfl
theorem cl27:(Tryz.checked.prog.make==some Rows.fnGameEndsRow.make)=true:=by kernel_rfl
theorem cl29:(Rows.fnGameEndsRow.pinned==Rows.fnGameEndsRow.pinnedBy)=true:=by kernel_rfl
theorem cl30:(Rows.fnGameEndsRow.veiled==(Tryz.f4.params.toList++Rows.fnGameEndsSpec.plain.varTypes Tryz.checked.prog++Tryz.f4.resultTypes.toList).any (Tryz.checked.prog.veiledRec ·))=true:=by kernel_rfl
theorem cl31:(Rows.fnGameEndsRow.veiledFits Tryz.checked.prog Tryz.f4.params.toList (Tryz.f4.params.toList++Rows.fnGameEndsSpec.plain.varTypes Tryz.checked.prog++Tryz.f4.resultTypes.toList))=true:=by kernel_rfl
theorem cl_FnGameEnds:joinedFacts Tryz.checked.prog 4 Tryz.f4 Rows.fnGameEndsSpec Rows.fnGameEndsRow=true:=by
 unfold joinedFacts
 refine band (band (band (band (band (band (band (band (band (band (band (band (band (band (band (band (band (band (band (band (band (band (band (band (band (band (band (band (band (band (band (cl0) cl1) cl2) cl3) cl4) cl5) cl6) cl7) cl8) cl9) cl10) cl11) cl12) cl13) cl14) cl15) cl16) cl17) cl18) cl19) cl20) cl21) cl22) cl23) cl24) cl25) cl26) cl27) ?_) cl29) cl30) cl31
 kernel_rfl
theorem fnGameEnds_holds:Rows.FnGameEndsSaid:=
 OpenClaim.holds_of_wide 4 Tryz.f4 rfl rfl rfl rfl rfl rfl rfl ⟨rfl,rfl,rfl,rfl,rfl⟩ rfl rfl rfl rfl rfl (by kernel_rfl) Tryz.func4 cl_FnGameEnds
  (of_decide_eq_true (by kernel_rfl)) (by unfold Func.isWrapper;first | (rw [if_pos (by decide +kernel)];kernel_rfl) | (rw [if_neg (by decide +kernel)];exact⟨rfl,rfl⟩))
  (fun os started H enc _=>lifted_ge os started H enc)
#print axioms fnGameEnds_holds
end Go.Proofs.YtjjonmhpgkahoaaGreatDoor
