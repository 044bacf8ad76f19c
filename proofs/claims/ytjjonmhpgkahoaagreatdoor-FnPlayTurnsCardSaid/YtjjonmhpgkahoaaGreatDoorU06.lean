/-
  FnPlayTurns: the law returns true, its arguments read as they did (the row's statement).
  Conditions: none of ours.
-/
import Derived.Test.YtjjonmhpgkahoaaGreatDoorU05
set_option linter.unusedSimpArgs false
set_option linter.unusedVariables false
namespace Go.Proofs.YtjjonmhpgkahoaaGreatDoor
open Go.ChangeShapes Go.WideShapes Go.ChangeAt Go.RowKit Go.Joins
open Ax
set_option maxRecDepth 100000
set_option maxHeartbeats 0
theorem gl_pt {W:World} (hsh:W.ShapedOpen Tryz.prog) (hl:laidMetH Tryz.prog Rows.fnPlayTurnsRow.laid W):Gl W:=by
 rw [MakeChecks.laidMetH_plain _ _ _ (by kernel_rfl)] at hl
 exact gl_of hsh hl (List.mem_of_getElem? (i:=1) rfl) (List.mem_of_getElem? (i:=2) rfl) (List.mem_of_getElem? (i:=0) rfl)
theorem lifted_pt (os:Os) (started:os.Started) (H:Type) (enc:TypeId×Value→H) :
 ReturnsInHanded {} Tryz.checked os 6 .any (fun w args=>(Rows.fnPlayTurnsSpec.pre enc Tryz.prog Tryz.f6 [] false w args∧laidMetH Tryz.prog Rows.fnPlayTurnsRow.laid w)∧sizedMet enc Tryz.prog Tryz.f6 (OpenSpec.ofChange Rows.fnPlayTurnsSpec) false w args)
  (Rows.fnPlayTurnsSpec.post enc Tryz.prog Tryz.f6 false true false false):=by
 refine change_shaped_and (C:=Tryz.checked) (X:=fun w _=>laidMetH Tryz.prog Rows.fnPlayTurnsRow.laid w) (fun _ _ _ hh h=>h.of_heap hh) ownM started (by kernel_rfl) Tryz.func6
  (ChangeSpec.witness_shaped (enc:=enc) (C:=Tryz.checked) (os:=os) (X:=fun w _=>laidMetH Tryz.prog Rows.fnPlayTurnsRow.laid w) false (World.laidAll Tryz.prog os Rows.fnPlayTurnsRow.laid) #[.slice none 0 0] 8 (World.laidAll_os _ _ _)
    (World.shaped_of_ZipB (by kernel_rfl) (by kernel_rfl)) (by kernel_rfl) (by kernel_rfl) (by kernel_rfl)
    (by rw [MakeChecks.laidMetH_plain _ _ _ (by kernel_rfl)];exact laidMet_laidAll _ (by kernel_rfl) (by kernel_rfl))) ?_
 intro W base args ds gs before hval0 hW hsh hlaid
 have hval : ∀(j:Nat) t v,Tryz.f6.params[j]? =some t→args[j]? =some v→Value.okWide Tryz.prog W .any base t v:=hval0
 have hW':=hW
 obtain⟨p,q,hA0,hV,rfl,_,_⟩:=hW
 have hA:DataW.TrodAll enc Tryz.prog W 0 (fun _=>true) true Tryz.f6.params.toList args.toList ds p:=hA0
 rw [Tryz.params6] at hA hval
 have hlt:=DataW.TrodAll.lt hA
 obtain⟨v0,d0,rfl,rfl,h0⟩:=trodAll_one hA
 obtain⟨rfl,rfl⟩:=trodVars_none hV
 obtain⟨a0,n0,c0,rfl⟩:=okWide_slice Tryz.underlying22 (hval 0 22 v0 rfl rfl)
 obtain⟨l0,k0⟩:=open_arg ty_ok 6 flat_by h0
 obtain⟨x,rfl,hx⟩:=vok_by k0
 simp only [List.append_nil,List.append_assoc] at hW'
 have hl0 : ∀x∈p,x.block<W.heap.size:=fun x hx=>hlt x (by simp [hx])
 refine Calls.mono (law_trueB ok_l_FnPlayTurns (args:=[.rsl [.i .u8] x]) (pre:=CbP x) rfl hx (gl_pt hsh hlaid) (VOk.Rs (e:=e0 W) k0)) fun e W' ⟨he,hb⟩=>?_
 subst he
 exact⟨_,rfl,_,_,_,[],_,[],hW',trodAll_mk1 (shut_bool Tryz.underlying4 _),
  trodAll_mk1 (Below.trod laidOutM (by kernel_rfl) (of_decide_eq_true (by kernel_rfl)) h0 hb hl0),rfl,hb.frame _,fun h=>by cases h⟩
theorem band {a b:Bool} (h1:a=true) (h2:b=true):(a&&b)=true:=by rw [h1,h2];rfl
theorem cl_FnPlayTurns:joinedFacts Tryz.checked.prog 6 Tryz.f6 Rows.fnPlayTurnsSpec Rows.fnPlayTurnsRow=true:=by
 unfold joinedFacts
 refine band (band (band (band (band (band (band (band (band (band (band (band (band (band (band (band (band (band (band (band (band (band (band (band (band (band (band (band (band (band (band ?_ ?_) ?_) ?_) ?_) ?_) ?_) ?_) ?_) ?_) ?_) ?_) ?_) ?_) ?_) ?_) ?_) ?_) ?_) ?_) ?_) ?_) ?_) ?_) ?_) ?_) ?_) ?_) ?_) ?_) ?_) ?_
 all_goals as_aux_lemma=>kernel_rfl
theorem fnPlayTurns_holds:Rows.FnPlayTurnsSaid:=
 OpenClaim.holds_of_wide 6 Tryz.f6 rfl rfl rfl rfl rfl rfl rfl ⟨rfl,rfl,rfl,rfl,rfl⟩ rfl rfl rfl rfl rfl (by kernel_rfl) Tryz.func6 cl_FnPlayTurns
  (of_decide_eq_true (by kernel_rfl)) (by unfold Func.isWrapper;first | (rw [if_pos (by decide +kernel)];kernel_rfl) | (rw [if_neg (by decide +kernel)];exact⟨rfl,rfl⟩))
  (fun os started H enc _=>lifted_pt os started H enc)
end Go.Proofs.YtjjonmhpgkahoaaGreatDoor
