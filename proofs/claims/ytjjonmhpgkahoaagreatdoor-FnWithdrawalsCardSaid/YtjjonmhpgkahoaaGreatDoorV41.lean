/-
  FnWithdrawals: whatever the arguments, the law returns true and they read as they did (the row's statement).
  Conditions: none of ours; what the row lists reads as the program's text lays it.
-/
import Derived.Test.YtjjonmhpgkahoaaGreatDoorV35
import Derived.Test.YtjjonmhpgkahoaaGreatDoorV40
set_option linter.unusedSimpArgs false
set_option linter.unusedVariables false
namespace Go.Proofs.YtjjonmhpgkahoaaGreatDoor
open Go.ChangeShapes Go.WideShapes Go.ChangeAt Go.RowKit Go.Joins
open Go.ChangeMaps (open_string shut_string)
open Ax
set_option maxRecDepth 100000
theorem gl_wi {W:World} (hsh:W.ShapedOpen Tryz.prog) (hl:laidMetH Tryz.prog Rows.fnWithdrawalsRow.laid W):Gl W:=by
 rw [MakeChecks.laidMetH_plain _ _ _ (by kernel_rfl)] at hl
 exact gl_of hsh hl (List.mem_of_getElem? (i:=1) rfl) (List.mem_of_getElem? (i:=2) rfl) (List.mem_of_getElem? (i:=0) rfl)
theorem lifted_wi (os:Os) (started:os.Started) (H:Type) (enc:TypeId×Value→H) :
 ReturnsInHanded {} Tryz.checked os 7 .any (fun w args=>(Rows.fnWithdrawalsSpec.pre enc Tryz.prog Tryz.f7 [] false w args∧laidMetH Tryz.prog Rows.fnWithdrawalsRow.laid w)∧sizedMet enc Tryz.prog Tryz.f7 (OpenSpec.ofChange Rows.fnWithdrawalsSpec) false w args)
  (Rows.fnWithdrawalsSpec.post enc Tryz.prog Tryz.f7 false true false false):=by
 refine change_shaped_and (C:=Tryz.checked) (X:=fun w _=>laidMetH Tryz.prog Rows.fnWithdrawalsRow.laid w) (fun _ _ _ hh h=>h.of_heap hh) ownM started (by kernel_rfl) Tryz.func7
  (ChangeSpec.witness_shaped (enc:=enc) (C:=Tryz.checked) (os:=os) (X:=fun w _=>laidMetH Tryz.prog Rows.fnWithdrawalsRow.laid w) false (World.laidAll Tryz.prog os Rows.fnWithdrawalsRow.laid) #[.slice none 0 0] 8 (World.laidAll_os _ _ _)
    (World.shaped_of_ZipB (by kernel_rfl) (by kernel_rfl)) (by kernel_rfl) (by kernel_rfl) (by kernel_rfl)
    (by rw [MakeChecks.laidMetH_plain _ _ _ (by kernel_rfl)];exact laidMet_laidAll _ (by kernel_rfl) (by kernel_rfl))) ?_
 intro W base args ds gs before hval0 hW hsh hlaid
 have hval : ∀(j:Nat) t v,Tryz.f7.params[j]? =some t→args[j]? =some v→Value.okWide Tryz.prog W .any base t v:=hval0
 have hW':=hW
 obtain⟨p,q,hA0,hV,rfl,_,_⟩:=hW
 have hA:DataW.TrodAll enc Tryz.prog W 0 (fun _=>true) true Tryz.f7.params.toList args.toList ds p:=hA0
 rw [Tryz.params7] at hA hval
 have hlt:=DataW.TrodAll.lt hA
 obtain⟨v0,d0,rfl,rfl,h0⟩:=trodAll_one hA
 obtain⟨rfl,rfl⟩:=trodVars_none hV
 obtain⟨a0,n0,c0,rfl⟩:=okWide_slice Tryz.underlying22 (hval 0 22 v0 rfl rfl)
 obtain⟨l0,k0⟩:=open_arg ty_ok 6 flat_by h0
 obtain⟨x,rfl,hx⟩:=vok_by k0
 simp only [List.append_nil,List.append_assoc] at hW'
 have hl0 : ∀x∈p,x.block<W.heap.size:=fun x hx=>hlt x (by simp [hx])
 refine Calls.mono (law_trueB ok_l_FnWithdrawals (args:=[.rsl [.i .u8] x]) (pre:=CbP x) rfl hx (gl_wi hsh hlaid) (VOk.Rs (e:=e0 W) k0)) fun e W' ⟨he,hb⟩=>?_
 subst he
 exact⟨_,rfl,_,_,_,[],_,[],hW',trodAll_mk1 (shut_bool Tryz.underlying4 _),
  trodAll_mk1 (Below.trod laidOutM (by kernel_rfl) (of_decide_eq_true (by kernel_rfl)) h0 hb hl0),rfl,hb.frame _,fun h=>by cases h⟩
theorem band {a b:Bool} (h1:a=true) (h2:b=true):(a&&b)=true:=by rw [h1,h2];rfl
theorem cl0:(Rows.fnWithdrawalsRow.wf (OpenSpec.ofChange Rows.fnWithdrawalsSpec))=true:=by kernel_rfl
theorem cl1:(laidOutB Tryz.checked.prog)=true:=by kernel_rfl
theorem cl2:(mapsRowed Tryz.checked.prog)=true:=by kernel_rfl
theorem cl3:(Tryz.f7.params.all (Tryz.checked.prog.readableRec ·))=true:=by kernel_rfl
theorem cl4:(namedTie Tryz.checked.prog Rows.fnWithdrawalsRow.named Rows.fnWithdrawalsSpec.vars)=true:=by kernel_rfl
theorem cl5:(Rows.fnWithdrawalsRow.stops==[])=true:=by kernel_rfl
theorem cl6:(Tryz.checked.prog.stops==[])=true:=by kernel_rfl
theorem cl7:(Rows.fnWithdrawalsRow.knobs==[])=true:=by kernel_rfl
theorem cl8:(Tryz.checked.prog.stopKnobs==[])=true:=by kernel_rfl
theorem cl9:(Rows.fnWithdrawalsRow.inPlace==Tryz.checked.prog.inPlace 7)=true:=by kernel_rfl
theorem cl10:(Rows.fnWithdrawalsRow.unfollowed==Tryz.checked.prog.unfollowed 7)=true:=by kernel_rfl
theorem cl11:(Rows.fnWithdrawalsRow.recurses==Tryz.checked.prog.recurses 7)=true:=by kernel_rfl
theorem cl12:(Rows.fnWithdrawalsRow.named==Tryz.checked.prog.varsNamed 7)=true:=by kernel_rfl
theorem cl13:(Rows.fnWithdrawalsRow.maps==(Tryz.f7.params.toList++Rows.fnWithdrawalsSpec.plain.varTypes Tryz.checked.prog).any (Tryz.checked.prog.mapsRec ·))=true:=by kernel_rfl
theorem cl14:(Rows.fnWithdrawalsRow.ifaces==(Tryz.f7.params.toList++Rows.fnWithdrawalsSpec.plain.varTypes Tryz.checked.prog).any (Tryz.checked.prog.ifacesRec ·))=true:=by kernel_rfl
theorem cl15:(Rows.fnWithdrawalsRow.mapsOut==Tryz.checked.prog.mapsAmong Tryz.f7.resultTypes.toList)=true:=by kernel_rfl
theorem cl16:(Rows.fnWithdrawalsRow.loops==(Tryz.f7.params.toList++Rows.fnWithdrawalsSpec.plain.varTypes Tryz.checked.prog).any (Tryz.checked.prog.loopsFrom ·))=true:=by kernel_rfl
theorem cl17:(Rows.fnWithdrawalsRow.wideKeys==(Tryz.f7.params.toList++Rows.fnWithdrawalsSpec.plain.varTypes Tryz.checked.prog++Tryz.f7.resultTypes.toList).any (Tryz.checked.prog.wideKeysFrom ·))=true:=by kernel_rfl
theorem cl18:(Rows.fnWithdrawalsSpec.vars.all (Tryz.checked.prog.varReadable ·))=true:=by kernel_rfl
theorem cl19:(Tryz.f7.resultTypes.all (fun t=>Tryz.checked.prog.readableRec t&&decide (t<Tryz.checked.prog.types.size)))=true:=by kernel_rfl
theorem cl20:(Rows.fnWithdrawalsRow.ifacesOut==Tryz.f7.resultTypes.toList.any (Tryz.checked.prog.ifacesRec ·))=true:=by kernel_rfl
theorem cl21:(Rows.fnWithdrawalsRow.loopsOut==Tryz.f7.resultTypes.toList.any (Tryz.checked.prog.loopsFrom ·))=true:=by kernel_rfl
theorem cl22:(Rows.fnWithdrawalsRow.plainKeys==Tryz.checked.prog.plainKeys)=true:=by kernel_rfl
theorem cl23:(Rows.fnWithdrawalsRow.shortTexts.isNone)=true:=by kernel_rfl
theorem cl24:(Tryz.checked.prog.stopsHeard)=true:=by kernel_rfl
theorem cl25:(Tryz.checked.prog.mayEnter)=true:=by kernel_rfl
theorem cl26:(Rows.fnWithdrawalsRow.lifted==Tryz.checked.prog.liftsFinal)=true:=by kernel_rfl
theorem cl27:(Tryz.checked.prog.make==some Rows.fnWithdrawalsRow.make)=true:=by kernel_rfl
theorem cl29:(Rows.fnWithdrawalsRow.pinned==Rows.fnWithdrawalsRow.pinnedBy)=true:=by kernel_rfl
theorem cl30:(Rows.fnWithdrawalsRow.veiled==(Tryz.f7.params.toList++Rows.fnWithdrawalsSpec.plain.varTypes Tryz.checked.prog++Tryz.f7.resultTypes.toList).any (Tryz.checked.prog.veiledRec ·))=true:=by kernel_rfl
theorem cl31:(Rows.fnWithdrawalsRow.veiledFits Tryz.checked.prog Tryz.f7.params.toList (Tryz.f7.params.toList++Rows.fnWithdrawalsSpec.plain.varTypes Tryz.checked.prog++Tryz.f7.resultTypes.toList))=true:=by kernel_rfl
theorem cl_FnWithdrawals:joinedFacts Tryz.checked.prog 7 Tryz.f7 Rows.fnWithdrawalsSpec Rows.fnWithdrawalsRow=true:=by
 unfold joinedFacts
 refine band (band (band (band (band (band (band (band (band (band (band (band (band (band (band (band (band (band (band (band (band (band (band (band (band (band (band (band (band (band (band (cl0) cl1) cl2) cl3) cl4) cl5) cl6) cl7) cl8) cl9) cl10) cl11) cl12) cl13) cl14) cl15) cl16) cl17) cl18) cl19) cl20) cl21) cl22) cl23) cl24) cl25) cl26) cl27) ?_) cl29) cl30) cl31
 kernel_rfl
theorem fnWithdrawals_holds:Rows.FnWithdrawalsSaid:=
 OpenClaim.holds_of_wide 7 Tryz.f7 rfl rfl rfl rfl rfl rfl rfl ⟨rfl,rfl,rfl,rfl,rfl⟩ rfl rfl rfl rfl rfl (by kernel_rfl) Tryz.func7 cl_FnWithdrawals
  (of_decide_eq_true (by kernel_rfl)) (by unfold Func.isWrapper;first | (rw [if_pos (by decide +kernel)];kernel_rfl) | (rw [if_neg (by decide +kernel)];exact⟨rfl,rfl⟩))
  (fun os started H enc _=>lifted_wi os started H enc)
#print axioms fnWithdrawals_holds
end Go.Proofs.YtjjonmhpgkahoaaGreatDoor
