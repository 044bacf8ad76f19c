/-
  FnChallenges: whatever the arguments, the law returns true and they read as they did (the row's statement).
  Conditions: none of ours; what the row lists reads as the program's text lays it.
-/
import Derived.Test.YtjjonmhpgkahoaaGreatDoorH42
import Derived.Test.YtjjonmhpgkahoaaGreatDoorH49
set_option linter.unusedSimpArgs false
set_option linter.unusedVariables false
namespace Go.Proofs.YtjjonmhpgkahoaaGreatDoor
open Go.ChangeShapes Go.WideShapes Go.ChangeAt Go.RowKit Go.Joins
open Go.ChangeMaps (open_string shut_string)
open Ax
set_option maxRecDepth 100000
theorem TR {W:World} (hsh:W.ShapedOpen Tryz.prog) (hl:laidMetH Tryz.prog Rows.fnChallengesRow.laid W):Gl W:=by
 rw [MakeChecks.laidMetH_plain _ _ _ (by kernel_rfl)] at hl
 exact SV hsh hl (List.mem_of_getElem? (i:=4) rfl) (List.mem_of_getElem? (i:=5) rfl) (List.mem_of_getElem? (i:=3) rfl) (by kernel_rfl)
theorem It (os:Os) (started:os.Started) (H:Type) (enc:TypeId×Value→H) :
 ReturnsInHanded {} Tryz.checked os 8 .any (fun w args=>(Rows.fnChallengesSpec.pre enc Tryz.prog Tryz.f8 [] false w args∧laidMetH Tryz.prog Rows.fnChallengesRow.laid w)∧sizedMet enc Tryz.prog Tryz.f8 (OpenSpec.ofChange Rows.fnChallengesSpec) false w args)
  (Rows.fnChallengesSpec.post enc Tryz.prog Tryz.f8 false true false false):=by
 refine rN (C:=Tryz.checked) (X:=fun w _=>laidMetH Tryz.prog Rows.fnChallengesRow.laid w) (fun _ _ _ hh h=>h.of_heap hh) UO started (by kernel_rfl) Tryz.func8
  (ChangeSpec.witness_shaped (enc:=enc) (C:=Tryz.checked) (os:=os) (X:=fun w _=>laidMetH Tryz.prog Rows.fnChallengesRow.laid w) false (World.laidAll Tryz.prog os Rows.fnChallengesRow.laid) #[.slice none 0 0] 8 (World.laidAll_os _ _ _)
    (World.shaped_of_ZipB (by kernel_rfl) (by kernel_rfl)) (by kernel_rfl) (by kernel_rfl) (by kernel_rfl)
    (by rw [MakeChecks.laidMetH_plain _ _ _ (by kernel_rfl)];exact laidMet_laidAll _ (by kernel_rfl) (by kernel_rfl))) ?_
 intro W base args ds gs before hval0 hW hsh hlaid
 have hval : ∀(j:Nat) t v,Tryz.f8.params[j]? =some t→args[j]? =some v→Value.okWide Tryz.prog W .any base t v:=hval0
 have hW':=hW
 obtain⟨p,q,hA0,hV,rfl,_,_⟩:=hW
 have hA:DataW.TrodAll enc Tryz.prog W 0 (fun _=>true) true Tryz.f8.params.toList args.toList ds p:=hA0
 rw [Tryz.params8] at hA hval
 have hlt:=DataW.TrodAll.lt hA
 obtain⟨v0,d0,rfl,rfl,h0⟩:=trodAll_one hA
 obtain⟨rfl,rfl⟩:=trodVars_none hV
 obtain⟨a0,n0,c0,rfl⟩:=okWide_slice Tryz.underlying22 (hval 0 22 v0 rfl rfl)
 obtain⟨l0,k0⟩:=IR Ky 6 Ni h0
 obtain⟨x,rfl,hx⟩:=P5 k0
 simp only [List.append_nil,List.append_assoc] at hW'
 have hl0 : ∀x∈p,x.block<W.heap.size:=fun x hx=>hlt x (by simp [hx])
 refine Calls.mono (H9 sA (args:=[.rsl [.i .u8] x]) (pre:=CbP x) rfl hx (TR hsh hlaid) (VOk.Rs (e:=e0 W) k0)) fun e W' ⟨he,hb⟩=>?_
 subst he
 exact⟨_,rfl,_,_,_,[],_,[],hW',trodAll_mk1 (shut_bool Tryz.underlying4 _),
  trodAll_mk1 (Below.trod Ka (by kernel_rfl) (of_decide_eq_true (by kernel_rfl)) h0 hb hl0),rfl,hb.frame _,fun h=>by cases h⟩
theorem gN {a b:Bool} (h1:a=true) (h2:b=true):(a&&b)=true:=by rw [h1,h2];rfl
theorem cl0:(Rows.fnChallengesRow.wf (OpenSpec.ofChange Rows.fnChallengesSpec))=true:=by kernel_rfl
theorem cl1:(laidOutB Tryz.checked.prog)=true:=by kernel_rfl
theorem cl2:(mapsRowed Tryz.checked.prog)=true:=by kernel_rfl
theorem cl3:(Tryz.f8.params.all (Tryz.checked.prog.readableRec ·))=true:=by kernel_rfl
theorem cl4:(namedTie Tryz.checked.prog Rows.fnChallengesRow.named Rows.fnChallengesSpec.vars)=true:=by kernel_rfl
theorem cl5:(Rows.fnChallengesRow.stops==[])=true:=by kernel_rfl
theorem cl6:(Tryz.checked.prog.stops==[])=true:=by kernel_rfl
theorem cl7:(Rows.fnChallengesRow.knobs==[])=true:=by kernel_rfl
theorem cl8:(Tryz.checked.prog.stopKnobs==[])=true:=by kernel_rfl
theorem cl9:(Rows.fnChallengesRow.inPlace==Tryz.checked.prog.inPlace 8)=true:=by kernel_rfl
theorem UR:(Rows.fnChallengesRow.unfollowed==Tryz.checked.prog.unfollowed 8)=true:=by kernel_rfl
theorem VU:(Rows.fnChallengesRow.recurses==Tryz.checked.prog.recurses 8)=true:=by kernel_rfl
theorem VC:(Rows.fnChallengesRow.named==Tryz.checked.prog.varsNamed 8)=true:=by kernel_rfl
theorem U6:(Rows.fnChallengesRow.maps==(Tryz.f8.params.toList++Rows.fnChallengesSpec.plain.varTypes Tryz.checked.prog).any (Tryz.checked.prog.mapsRec ·))=true:=by kernel_rfl
theorem VQ:(Rows.fnChallengesRow.ifaces==(Tryz.f8.params.toList++Rows.fnChallengesSpec.plain.varTypes Tryz.checked.prog).any (Tryz.checked.prog.ifacesRec ·))=true:=by kernel_rfl
theorem VO:(Rows.fnChallengesRow.mapsOut==Tryz.checked.prog.mapsAmong Tryz.f8.resultTypes.toList)=true:=by kernel_rfl
theorem UT:(Rows.fnChallengesRow.loops==(Tryz.f8.params.toList++Rows.fnChallengesSpec.plain.varTypes Tryz.checked.prog).any (Tryz.checked.prog.loopsFrom ·))=true:=by kernel_rfl
theorem Vl:(Rows.fnChallengesRow.wideKeys==(Tryz.f8.params.toList++Rows.fnChallengesSpec.plain.varTypes Tryz.checked.prog++Tryz.f8.resultTypes.toList).any (Tryz.checked.prog.wideKeysFrom ·))=true:=by kernel_rfl
theorem UD:(Rows.fnChallengesSpec.vars.all (Tryz.checked.prog.varReadable ·))=true:=by kernel_rfl
theorem VK:(Tryz.f8.resultTypes.all (fun t=>Tryz.checked.prog.readableRec t&&decide (t<Tryz.checked.prog.types.size)))=true:=by kernel_rfl
theorem U7:(Rows.fnChallengesRow.ifacesOut==Tryz.f8.resultTypes.toList.any (Tryz.checked.prog.ifacesRec ·))=true:=by kernel_rfl
theorem Vk:(Rows.fnChallengesRow.loopsOut==Tryz.f8.resultTypes.toList.any (Tryz.checked.prog.loopsFrom ·))=true:=by kernel_rfl
theorem VB:(Rows.fnChallengesRow.plainKeys==Tryz.checked.prog.plainKeys)=true:=by kernel_rfl
theorem UA:(Rows.fnChallengesRow.shortTexts.isNone)=true:=by kernel_rfl
theorem U3:(Tryz.checked.prog.stopsHeard)=true:=by kernel_rfl
theorem VR:(Tryz.checked.prog.mayEnter)=true:=by kernel_rfl
theorem UW:(Rows.fnChallengesRow.lifted==Tryz.checked.prog.liftsFinal)=true:=by kernel_rfl
theorem V2:(Tryz.checked.prog.make==some Rows.fnChallengesRow.make)=true:=by kernel_rfl
theorem US:(Rows.fnChallengesRow.pinned==Rows.fnChallengesRow.pinnedBy)=true:=by kernel_rfl
theorem Ur:(Rows.fnChallengesRow.veiled==(Tryz.f8.params.toList++Rows.fnChallengesSpec.plain.varTypes Tryz.checked.prog++Tryz.f8.resultTypes.toList).any (Tryz.checked.prog.veiledRec ·))=true:=by kernel_rfl
theorem UQ:(Rows.fnChallengesRow.veiledFits Tryz.checked.prog Tryz.f8.params.toList (Tryz.f8.params.toList++Rows.fnChallengesSpec.plain.varTypes Tryz.checked.prog++Tryz.f8.resultTypes.toList))=true:=by kernel_rfl
theorem vy:joinedFacts Tryz.checked.prog 8 Tryz.f8 Rows.fnChallengesSpec Rows.fnChallengesRow=true:=by
 unfold joinedFacts
 refine gN (gN (gN (gN (gN (gN (gN (gN (gN (gN (gN (gN (gN (gN (gN (gN (gN (gN (gN (gN (gN (gN (gN (gN (gN (gN (gN (gN (gN (gN (gN (cl0) cl1) cl2) cl3) cl4) cl5) cl6) cl7) cl8) cl9) UR) VU) VC) U6) VQ) VO) UT) Vl) UD) VK) U7) Vk) VB) UA) U3) VR) UW) V2) ?_) US) Ur) UQ
 kernel_rfl
theorem fnChallenges_holds:Rows.FnChallengesSaid:=
 OpenClaim.holds_of_wide 8 Tryz.f8 rfl rfl rfl rfl rfl rfl rfl ⟨rfl,rfl,rfl,rfl,rfl⟩ rfl rfl rfl rfl rfl (by kernel_rfl) Tryz.func8 vy
  (of_decide_eq_true (by kernel_rfl)) (by unfold Func.isWrapper;first | (rw [if_pos (by decide +kernel)];kernel_rfl) | (rw [if_neg (by decide +kernel)];exact⟨rfl,rfl⟩))
  (fun os started H enc _=>It os started H enc)
#print axioms fnChallenges_holds
end Go.Proofs.YtjjonmhpgkahoaaGreatDoor
