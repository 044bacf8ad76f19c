/-
  FnExactPlayTurn: whatever the arguments, the law returns true and they read as they did (the row's statement).
  Conditions: as each part below says.
-/
import Derived.Test.YtdojdfminchlaaaGreatDoorM19
import Derived.Test.YtdojdfminchlaaaGreatDoorM34
set_option linter.unusedSimpArgs false
set_option linter.unusedVariables false
/-
  FnExactPlayTurn: whatever the arguments, the law returns true and they read as they did (the row's statement).
  Conditions: none of ours; what the row lists reads as the program's text lays it.
-/
namespace Go.Proofs.YtdojdfminchlaaaGreatDoor
open Go.ChangeShapes Go.WideShapes Go.ChangeAt Go.RowKit Go.Joins
open Go.ChangeMaps (open_string shut_string)
open Ax
set_option maxRecDepth 100000
theorem gl_play {W : World} (hsh : W.ShapedOpen Tryz.prog) (hl : laidMetH Tryz.prog Rows.fnExactPlayTurnRow.laid W) : Gl W := by
  rw [MakeChecks.laidMetH_plain _ _ _ (by kernel_rfl)] at hl
  exact gl_of hsh hl (List.mem_cons.2 (.inr (List.mem_cons.2 (.inl rfl)))) (List.mem_cons.2 (.inr (List.mem_cons.2 (.inr (List.mem_cons.2 (.inl rfl)))))) (List.mem_cons.2 (.inl rfl))
theorem lifted_play (os : Os) (started : os.Started) (H : Type) (enc : TypeId × Value → H) :
    ReturnsInHanded {} Tryz.checked os 3 .any (fun w args => (Rows.fnExactPlayTurnSpec.pre enc Tryz.prog Tryz.f3 [] false w args ∧ laidMetH Tryz.prog Rows.fnExactPlayTurnRow.laid w) ∧ sizedMet enc Tryz.prog Tryz.f3 (OpenSpec.ofChange Rows.fnExactPlayTurnSpec) false w args)
      (Rows.fnExactPlayTurnSpec.post enc Tryz.prog Tryz.f3 false true false false) := by
  refine change_shaped_and (C := Tryz.checked) (X := fun w _ => laidMetH Tryz.prog Rows.fnExactPlayTurnRow.laid w) (fun _ _ _ hh h => h.of_heap hh) ownM started (by kernel_rfl) Tryz.func3
    (ChangeSpec.witness_shaped (enc := enc) (C := Tryz.checked) (os := os) (X := fun w _ => laidMetH Tryz.prog Rows.fnExactPlayTurnRow.laid w) false (World.laidAll Tryz.prog os Rows.fnExactPlayTurnRow.laid) #[.agg #[.string ⟨#[]⟩, .slice none 0 0, .slice none 0 0, .int .i64 0, .slice none 0 0, .int .i64 0, .string ⟨#[]⟩, .string ⟨#[]⟩, .int .i64 0, .int .i64 0, .int .i64 0, .string ⟨#[]⟩, .string ⟨#[]⟩, .string ⟨#[]⟩, .slice none 0 0, .slice none 0 0, .slice none 0 0, .int .i64 0, .int .i64 0, .int .i64 0, .int .i64 0, .int .i64 0, .int .i64 0, .bool false, .string ⟨#[]⟩, .string ⟨#[]⟩, .string ⟨#[]⟩, .int .i64 0, .int .i64 0, .bool false], .agg #[.int .i64 0, .int .i64 0, .bool false, .string ⟨#[]⟩], .int .i64 0] 8 (World.laidAll_os _ _ _)
      (World.shaped_of_ZipB (by kernel_rfl) (by kernel_rfl)) (by kernel_rfl) (by kernel_rfl) (by kernel_rfl)
      (by rw [MakeChecks.laidMetH_plain _ _ _ (by kernel_rfl)]; exact laidMet_laidAll _ (by kernel_rfl) (by kernel_rfl))) ?_
  intro W base args ds gs before hval0 hW hsh hlaid
  have hval : ∀ (j : Nat) t v, Tryz.f3.params[j]? = some t → args[j]? = some v → Value.okWide Tryz.prog W .any base t v := hval0
  have hW' := hW
  obtain ⟨p, q, hA0, hV, rfl, _, _⟩ := hW
  have hA : DataW.TrodAll enc Tryz.prog W 0 (fun _ => true) true Tryz.f3.params.toList args.toList ds p := hA0
  rw [Tryz.params3] at hA hval
  have hlt := DataW.TrodAll.lt hA
  obtain ⟨v0, v1, v2, d0, d1, d2, p0, p1, p2, rfl, rfl, rfl, h0, h1, h2⟩ := trodAll_three hA
  obtain ⟨rfl, rfl⟩ := trodVars_none hV
  obtain ⟨c0, rfl, _⟩ := okWide_struct Tryz.underlying37 (hval 0 37 v0 rfl rfl)
  obtain ⟨c1, rfl, _⟩ := okWide_struct Tryz.underlying33 (hval 1 33 v1 rfl rfl)
  obtain ⟨n, rfl⟩ := okWide_int Tryz.underlying2 (hval 2 2 v2 rfl rfl)
  obtain ⟨l0, k0⟩ := open_arg ty_ok 6 flat_gm h0
  obtain ⟨l1, k1⟩ := open_arg ty_ok 6 flat_pl h1
  obtain ⟨g, rfl, hz⟩ := vok_gm k0
  obtain ⟨q, rfl, hq⟩ := vok_pl k1
  simp only [List.append_nil, List.append_assoc] at hW'
  have hl0 : ∀ x ∈ p0, x.block < W.heap.size := fun x hx => hlt x (by simp [hx])
  have hl1 : ∀ x ∈ p1, x.block < W.heap.size := fun x hx => hlt x (by simp [hx])
  have hl2 : ∀ x ∈ p2, x.block < W.heap.size := fun x hx => hlt x (by simp [hx])
  refine Calls.mono (law_true ok_l_FnExactPlayTurn (args := [.agg (gmR g), .agg (plK q), .i .i64 n]) (pre := LawP g q) rfl ⟨hz, hq⟩ (gl_play hsh hlaid) (Rsl_cons (arg_struct rfl k0) (Rsl_cons (arg_struct rfl k1) (Rsl_one (by unfold R; rfl))))) fun e W' ⟨he, hb⟩ => ?_
  subst he
  exact ⟨_, rfl, _, _, _, [], _, [], hW', trodAll_mk1 (shut_bool Tryz.underlying4 _),
    trodAll_mk3 (Below.trod laidOutM (by kernel_rfl) (of_decide_eq_true (by kernel_rfl)) h0 hb hl0) (Below.trod laidOutM (by kernel_rfl) (of_decide_eq_true (by kernel_rfl)) h1 hb hl1) (Below.trod laidOutM (by kernel_rfl) (of_decide_eq_true (by kernel_rfl)) h2 hb hl2), rfl, hb.frame _, fun h => by cases h⟩
theorem band {a b : Bool} (h1 : a = true) (h2 : b = true) : (a && b) = true := by rw [h1, h2]; rfl
theorem cl0 : (Rows.fnExactPlayTurnRow.wf (OpenSpec.ofChange Rows.fnExactPlayTurnSpec)) = true := by kernel_rfl
theorem cl1 : (laidOutB Tryz.checked.prog) = true := by kernel_rfl
theorem cl2 : (mapsRowed Tryz.checked.prog) = true := by kernel_rfl
theorem cl3 : (Tryz.f3.params.all (Tryz.checked.prog.readableRec ·)) = true := by kernel_rfl
theorem cl4 : (namedTie Tryz.checked.prog Rows.fnExactPlayTurnRow.named Rows.fnExactPlayTurnSpec.vars) = true := by kernel_rfl
theorem cl5 : (Rows.fnExactPlayTurnRow.stops == []) = true := by kernel_rfl
theorem cl6 : (Tryz.checked.prog.stops == []) = true := by kernel_rfl
theorem cl7 : (Rows.fnExactPlayTurnRow.knobs == []) = true := by kernel_rfl
theorem cl8 : (Tryz.checked.prog.stopKnobs == []) = true := by kernel_rfl
theorem cl9 : (Rows.fnExactPlayTurnRow.inPlace == Tryz.checked.prog.inPlace 3) = true := by kernel_rfl
theorem cl10 : (Rows.fnExactPlayTurnRow.unfollowed == Tryz.checked.prog.unfollowed 3) = true := by kernel_rfl
theorem cl11 : (Rows.fnExactPlayTurnRow.recurses == Tryz.checked.prog.recurses 3) = true := by kernel_rfl
theorem cl12 : (Rows.fnExactPlayTurnRow.named == Tryz.checked.prog.varsNamed 3) = true := by kernel_rfl
theorem cl13 : (Rows.fnExactPlayTurnRow.maps == (Tryz.f3.params.toList ++ Rows.fnExactPlayTurnSpec.plain.varTypes Tryz.checked.prog).any (Tryz.checked.prog.mapsRec ·)) = true := by kernel_rfl
theorem cl14 : (Rows.fnExactPlayTurnRow.ifaces == (Tryz.f3.params.toList ++ Rows.fnExactPlayTurnSpec.plain.varTypes Tryz.checked.prog).any (Tryz.checked.prog.ifacesRec ·)) = true := by kernel_rfl
theorem cl15 : (Rows.fnExactPlayTurnRow.mapsOut == Tryz.checked.prog.mapsAmong Tryz.f3.resultTypes.toList) = true := by kernel_rfl
theorem cl16 : (Rows.fnExactPlayTurnRow.loops == (Tryz.f3.params.toList ++ Rows.fnExactPlayTurnSpec.plain.varTypes Tryz.checked.prog).any (Tryz.checked.prog.loopsFrom ·)) = true := by kernel_rfl
theorem cl17 : (Rows.fnExactPlayTurnRow.wideKeys == (Tryz.f3.params.toList ++ Rows.fnExactPlayTurnSpec.plain.varTypes Tryz.checked.prog ++ Tryz.f3.resultTypes.toList).any (Tryz.checked.prog.wideKeysFrom ·)) = true := by kernel_rfl
theorem cl18 : (Rows.fnExactPlayTurnSpec.vars.all (Tryz.checked.prog.varReadable ·)) = true := by kernel_rfl
theorem cl19 : (Tryz.f3.resultTypes.all (fun t => Tryz.checked.prog.readableRec t && decide (t < Tryz.checked.prog.types.size))) = true := by kernel_rfl
theorem cl20 : (Rows.fnExactPlayTurnRow.ifacesOut == Tryz.f3.resultTypes.toList.any (Tryz.checked.prog.ifacesRec ·)) = true := by kernel_rfl
theorem cl21 : (Rows.fnExactPlayTurnRow.loopsOut == Tryz.f3.resultTypes.toList.any (Tryz.checked.prog.loopsFrom ·)) = true := by kernel_rfl
theorem cl22 : (Rows.fnExactPlayTurnRow.plainKeys == Tryz.checked.prog.plainKeys) = true := by kernel_rfl
theorem cl23 : (Rows.fnExactPlayTurnRow.shortTexts.isNone) = true := by kernel_rfl
theorem cl24 : (Tryz.checked.prog.stopsHeard) = true := by kernel_rfl
theorem cl25 : (Tryz.checked.prog.mayEnter) = true := by kernel_rfl
theorem cl26 : (Rows.fnExactPlayTurnRow.lifted == Tryz.checked.prog.liftsFinal) = true := by kernel_rfl
theorem cl27 : (Tryz.checked.prog.make == some Rows.fnExactPlayTurnRow.make) = true := by kernel_rfl
theorem cl29 : (Rows.fnExactPlayTurnRow.pinned == Rows.fnExactPlayTurnRow.pinnedBy) = true := by kernel_rfl
theorem cl30 : (Rows.fnExactPlayTurnRow.veiled == (Tryz.f3.params.toList ++ Rows.fnExactPlayTurnSpec.plain.varTypes Tryz.checked.prog ++ Tryz.f3.resultTypes.toList).any (Tryz.checked.prog.veiledRec ·)) = true := by kernel_rfl
theorem cl31 : (Rows.fnExactPlayTurnRow.veiledFits Tryz.checked.prog Tryz.f3.params.toList (Tryz.f3.params.toList ++ Rows.fnExactPlayTurnSpec.plain.varTypes Tryz.checked.prog ++ Tryz.f3.resultTypes.toList)) = true := by kernel_rfl
theorem cl_FnExactPlayTurn : joinedFacts Tryz.checked.prog 3 Tryz.f3 Rows.fnExactPlayTurnSpec Rows.fnExactPlayTurnRow = true := by
  unfold joinedFacts
  refine band (band (band (band (band (band (band (band (band (band (band (band (band (band (band (band (band (band (band (band (band (band (band (band (band (band (band (band (band (band (band (cl0) cl1) cl2) cl3) cl4) cl5) cl6) cl7) cl8) cl9) cl10) cl11) cl12) cl13) cl14) cl15) cl16) cl17) cl18) cl19) cl20) cl21) cl22) cl23) cl24) cl25) cl26) cl27) ?_) cl29) cl30) cl31
  kernel_rfl
theorem fnExactPlayTurn_holds : Rows.FnExactPlayTurnSaid :=
  OpenClaim.holds_of_wide 3 Tryz.f3 rfl rfl rfl rfl rfl rfl rfl ⟨rfl, rfl, rfl, rfl, rfl⟩ rfl rfl rfl rfl rfl (by kernel_rfl) Tryz.func3 cl_FnExactPlayTurn
    (of_decide_eq_true (by kernel_rfl)) (by unfold Func.isWrapper; first | (rw [if_pos (by decide +kernel)]; kernel_rfl) | (rw [if_neg (by decide +kernel)]; exact ⟨rfl, rfl⟩))
    (fun os started H enc _ => lifted_play os started H enc)
#print axioms fnExactPlayTurn_holds
end Go.Proofs.YtdojdfminchlaaaGreatDoor
