/-
  FnExactReplayRecord: whatever the arguments, the law returns true and they read as they did (the row's statement).
  Conditions: none of ours; what the row lists reads as the program's text lays it.
-/
import Derived.Test.YtghmphmbpdiflaaGreatDoorE44
import Derived.Test.YtghmphmbpdiflaaGreatDoorE48
set_option linter.unusedSimpArgs false
set_option linter.unusedVariables false
namespace Go.Proofs.YtghmphmbpdiflaaGreatDoor
open Go.ChangeShapes Go.WideShapes Go.ChangeAt Go.RowKit Go.Joins
open Go.ChangeMaps (open_string shut_string)
open Ax
set_option maxRecDepth 100000
theorem gl_rr {W:World} (hsh:W.ShapedOpen Tryz.prog) (hl:laidMetH Tryz.prog Rows.fnExactReplayRecordRow.laid W):Gl W:=by
 rw [MakeChecks.laidMetH_plain _ _ _ (by kernel_rfl)] at hl
 exact gl_of hsh hl (List.mem_of_getElem? (i:=4) rfl) (List.mem_of_getElem? (i:=5) rfl) (List.mem_of_getElem? (i:=3) rfl)
theorem lifted_rr (os:Os) (started:os.Started) (H:Type) (enc:TypeId×Value→H) :
 ReturnsInHanded {} Tryz.checked os 6 .any (fun w args=>(Rows.fnExactReplayRecordSpec.pre enc Tryz.prog Tryz.f6 [] false w args∧laidMetH Tryz.prog Rows.fnExactReplayRecordRow.laid w)∧sizedMet enc Tryz.prog Tryz.f6 (OpenSpec.ofChange Rows.fnExactReplayRecordSpec) false w args)
  (Rows.fnExactReplayRecordSpec.post enc Tryz.prog Tryz.f6 false true false false):=by
 refine change_shaped_and (C:=Tryz.checked) (X:=fun w _=>laidMetH Tryz.prog Rows.fnExactReplayRecordRow.laid w) (fun _ _ _ hh h=>h.of_heap hh) ownM started (by kernel_rfl) Tryz.func6
  (ChangeSpec.witness_shaped (enc:=enc) (C:=Tryz.checked) (os:=os) (X:=fun w _=>laidMetH Tryz.prog Rows.fnExactReplayRecordRow.laid w) false (World.laidAll Tryz.prog os Rows.fnExactReplayRecordRow.laid) #[.agg #[.string ⟨#[]⟩,.slice none 0 0,.slice none 0 0,.int .i64 0,.slice none 0 0,.int .i64 0,.string ⟨#[]⟩,.string ⟨#[]⟩,.int .i64 0,.int .i64 0],.agg #[.int .i64 0,.slice none 0 0]] 8 (World.laidAll_os _ _ _)
    (World.shaped_of_ZipB (by kernel_rfl) (by kernel_rfl)) (by kernel_rfl) (by kernel_rfl) (by kernel_rfl)
    (by rw [MakeChecks.laidMetH_plain _ _ _ (by kernel_rfl)];exact laidMet_laidAll _ (by kernel_rfl) (by kernel_rfl))) ?_
 intro W base args ds gs before hval0 hW hsh hlaid
 have hval : ∀(j:Nat) t v,Tryz.f6.params[j]? =some t→args[j]? =some v→Value.okWide Tryz.prog W .any base t v:=hval0
 have hW':=hW
 obtain⟨p,q,hA0,hV,rfl,_,_⟩:=hW
 have hA:DataW.TrodAll enc Tryz.prog W 0 (fun _=>true) true Tryz.f6.params.toList args.toList ds p:=hA0
 rw [Tryz.params6] at hA hval
 have hlt:=DataW.TrodAll.lt hA
 obtain⟨v0,v1,d0,d1,p0,p1,rfl,rfl,rfl,h0,h1⟩:=trodAll_two hA
 obtain⟨rfl,rfl⟩:=trodVars_none hV
 obtain⟨c0,rfl,_⟩:=okWide_struct Tryz.underlying69 (hval 0 69 v0 rfl rfl)
 obtain⟨c1,rfl,_⟩:=okWide_struct Tryz.underlying72 (hval 1 72 v1 rfl rfl)
 obtain⟨l0,k0⟩:=open_arg ty_ok 6 flat_su h0
 obtain⟨l1,k1⟩:=open_arg ty_ok 6 flat_rc h1
 obtain⟨u,rfl,hz⟩:=vok_su k0
 obtain⟨r,rfl,ha⟩:=vok_rc k1
 simp only [List.append_nil,List.append_assoc] at hW'
 have hl0 : ∀x∈p0,x.block<W.heap.size:=fun x hx=>hlt x (by simp [hx])
 have hl1 : ∀x∈p1,x.block<W.heap.size:=fun x hx=>hlt x (by simp [hx])
 refine Calls.mono (law_true ok_l_FnExactReplayRecord (args:=[.agg (suK u (.rsl [.i .i64] u.ts.values) (.rsl [.i .i64] u.ts.counts) (.rsl [.s] u.lex)),.agg (rcK r (.rsl shAc r.acts))]) (pre:=LawR u r) rfl ⟨hz,ha⟩ (gl_rr hsh hlaid) (Rsl_cons (arg_struct rfl k0) (Rsl_one (arg_struct rfl k1)))) fun e W' ⟨he,hb⟩=>?_
 subst he
 exact⟨_,rfl,_,_,_,[],_,[],hW',trodAll_mk1 (shut_bool Tryz.underlying4 _),
  trodAll_mk2 (Below.trod laidOutM (by kernel_rfl) (of_decide_eq_true (by kernel_rfl)) h0 hb hl0) (Below.trod laidOutM (by kernel_rfl) (of_decide_eq_true (by kernel_rfl)) h1 hb hl1),rfl,hb.frame _,fun h=>by cases h⟩
theorem band {a b:Bool} (h1:a=true) (h2:b=true):(a&&b)=true:=by rw [h1,h2];rfl
theorem cl0:(Rows.fnExactReplayRecordRow.wf (OpenSpec.ofChange Rows.fnExactReplayRecordSpec))=true:=by kernel_rfl
theorem cl1:(laidOutB Tryz.checked.prog)=true:=by kernel_rfl
theorem cl2:(mapsRowed Tryz.checked.prog)=true:=by kernel_rfl
theorem cl3:(Tryz.f6.params.all (Tryz.checked.prog.readableRec ·))=true:=by kernel_rfl
theorem cl4:(namedTie Tryz.checked.prog Rows.fnExactReplayRecordRow.named Rows.fnExactReplayRecordSpec.vars)=true:=by kernel_rfl
theorem cl5:(Rows.fnExactReplayRecordRow.stops==[])=true:=by kernel_rfl
theorem cl6:(Tryz.checked.prog.stops==[])=true:=by kernel_rfl
theorem cl7:(Rows.fnExactReplayRecordRow.knobs==[])=true:=by kernel_rfl
theorem cl8:(Tryz.checked.prog.stopKnobs==[])=true:=by kernel_rfl
theorem cl9:(Rows.fnExactReplayRecordRow.inPlace==Tryz.checked.prog.inPlace 6)=true:=by kernel_rfl
theorem cl10:(Rows.fnExactReplayRecordRow.unfollowed==Tryz.checked.prog.unfollowed 6)=true:=by kernel_rfl
theorem cl11:(Rows.fnExactReplayRecordRow.recurses==Tryz.checked.prog.recurses 6)=true:=by kernel_rfl
theorem cl12:(Rows.fnExactReplayRecordRow.named==Tryz.checked.prog.varsNamed 6)=true:=by kernel_rfl
theorem cl13:(Rows.fnExactReplayRecordRow.maps==(Tryz.f6.params.toList++Rows.fnExactReplayRecordSpec.plain.varTypes Tryz.checked.prog).any (Tryz.checked.prog.mapsRec ·))=true:=by kernel_rfl
theorem cl14:(Rows.fnExactReplayRecordRow.ifaces==(Tryz.f6.params.toList++Rows.fnExactReplayRecordSpec.plain.varTypes Tryz.checked.prog).any (Tryz.checked.prog.ifacesRec ·))=true:=by kernel_rfl
theorem cl15:(Rows.fnExactReplayRecordRow.mapsOut==Tryz.checked.prog.mapsAmong Tryz.f6.resultTypes.toList)=true:=by kernel_rfl
theorem cl16:(Rows.fnExactReplayRecordRow.loops==(Tryz.f6.params.toList++Rows.fnExactReplayRecordSpec.plain.varTypes Tryz.checked.prog).any (Tryz.checked.prog.loopsFrom ·))=true:=by kernel_rfl
theorem cl17:(Rows.fnExactReplayRecordRow.wideKeys==(Tryz.f6.params.toList++Rows.fnExactReplayRecordSpec.plain.varTypes Tryz.checked.prog++Tryz.f6.resultTypes.toList).any (Tryz.checked.prog.wideKeysFrom ·))=true:=by kernel_rfl
theorem cl18:(Rows.fnExactReplayRecordSpec.vars.all (Tryz.checked.prog.varReadable ·))=true:=by kernel_rfl
theorem cl19:(Tryz.f6.resultTypes.all (fun t=>Tryz.checked.prog.readableRec t&&decide (t<Tryz.checked.prog.types.size)))=true:=by kernel_rfl
theorem cl20:(Rows.fnExactReplayRecordRow.ifacesOut==Tryz.f6.resultTypes.toList.any (Tryz.checked.prog.ifacesRec ·))=true:=by kernel_rfl
theorem cl21:(Rows.fnExactReplayRecordRow.loopsOut==Tryz.f6.resultTypes.toList.any (Tryz.checked.prog.loopsFrom ·))=true:=by kernel_rfl
theorem cl22:(Rows.fnExactReplayRecordRow.plainKeys==Tryz.checked.prog.plainKeys)=true:=by kernel_rfl
theorem cl23:(Rows.fnExactReplayRecordRow.shortTexts.isNone)=true:=by kernel_rfl
theorem cl24:(Tryz.checked.prog.stopsHeard)=true:=by kernel_rfl
theorem cl25:(Tryz.checked.prog.mayEnter)=true:=by kernel_rfl
theorem cl26:(Rows.fnExactReplayRecordRow.lifted==Tryz.checked.prog.liftsFinal)=true:=by kernel_rfl
theorem cl27:(Tryz.checked.prog.make==some Rows.fnExactReplayRecordRow.make)=true:=by kernel_rfl
theorem cl29:(Rows.fnExactReplayRecordRow.pinned==Rows.fnExactReplayRecordRow.pinnedBy)=true:=by kernel_rfl
theorem cl30:(Rows.fnExactReplayRecordRow.veiled==(Tryz.f6.params.toList++Rows.fnExactReplayRecordSpec.plain.varTypes Tryz.checked.prog++Tryz.f6.resultTypes.toList).any (Tryz.checked.prog.veiledRec ·))=true:=by kernel_rfl
theorem cl31:(Rows.fnExactReplayRecordRow.veiledFits Tryz.checked.prog Tryz.f6.params.toList (Tryz.f6.params.toList++Rows.fnExactReplayRecordSpec.plain.varTypes Tryz.checked.prog++Tryz.f6.resultTypes.toList))=true:=by kernel_rfl
theorem cl_FnExactReplayRecord:joinedFacts Tryz.checked.prog 6 Tryz.f6 Rows.fnExactReplayRecordSpec Rows.fnExactReplayRecordRow=true:=by
 unfold joinedFacts
 refine band (band (band (band (band (band (band (band (band (band (band (band (band (band (band (band (band (band (band (band (band (band (band (band (band (band (band (band (band (band (band (cl0) cl1) cl2) cl3) cl4) cl5) cl6) cl7) cl8) cl9) cl10) cl11) cl12) cl13) cl14) cl15) cl16) cl17) cl18) cl19) cl20) cl21) cl22) cl23) cl24) cl25) cl26) cl27) ?_) cl29) cl30) cl31
 kernel_rfl
theorem fnExactReplayRecord_holds:Rows.FnExactReplayRecordSaid:=
 OpenClaim.holds_of_wide 6 Tryz.f6 rfl rfl rfl rfl rfl rfl rfl ⟨rfl,rfl,rfl,rfl,rfl⟩ rfl rfl rfl rfl rfl (by kernel_rfl) Tryz.func6 cl_FnExactReplayRecord
  (of_decide_eq_true (by kernel_rfl)) (by unfold Func.isWrapper;first | (rw [if_pos (by decide +kernel)];kernel_rfl) | (rw [if_neg (by decide +kernel)];exact⟨rfl,rfl⟩))
  (fun os started H enc _=>lifted_rr os started H enc)
#print axioms fnExactReplayRecord_holds
end Go.Proofs.YtghmphmbpdiflaaGreatDoor
