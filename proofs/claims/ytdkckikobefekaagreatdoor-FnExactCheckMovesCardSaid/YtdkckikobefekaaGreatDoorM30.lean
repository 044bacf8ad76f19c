/-
  FnExactCheckMoves: whatever the arguments, the law returns true and they read as they did (the row's statement).
  Conditions: none of ours; what the row lists reads as the program's text lays it.
-/
import Derived.Test.YtdkckikobefekaaGreatDoorRows
import Derived.Test.YtdkckikobefekaaGreatDoorM29
namespace Go.Proofs.YtdkckikobefekaaGreatDoor
open Go.ChangeShapes Go.WideShapes Go.ChangeAt Go.RowKit Go.Joins
open Go.ChangeMaps (open_string shut_string)
open RegP RegL RegV
set_option maxRecDepth 100000
theorem lifted_check (os : Os) (started : os.Started) (H : Type) (enc : TypeId × Value → H) :
   ReturnsInHanded {} Tryz.checked os 3 .any (fun w args => (Rows.fnExactCheckMovesSpec.pre enc Tryz.prog Tryz.f3 [] false w args ∧ laidMetH Tryz.prog Rows.fnExactCheckMovesRow.laid w) ∧ sizedMet enc Tryz.prog Tryz.f3 (OpenSpec.ofChange Rows.fnExactCheckMovesSpec) false w args)
     (Rows.fnExactCheckMovesSpec.post enc Tryz.prog Tryz.f3 false true false false) := by
 refine change_shaped_and (C := Tryz.checked) (X := fun w _ => laidMetH Tryz.prog Rows.fnExactCheckMovesRow.laid w) (fun _ _ _ hh h => h.of_heap hh) ownM started (by kernel_rfl) Tryz.func3
   (ChangeSpec.witness_shaped (enc := enc) (C := Tryz.checked) (os := os) (X := fun w _ => laidMetH Tryz.prog Rows.fnExactCheckMovesRow.laid w) false (World.laidAll Tryz.prog os Rows.fnExactCheckMovesRow.laid) #[.agg #[.slice none 0 0], .agg #[.string ⟨#[]⟩, .slice none 0 0, .slice none 0 0, .int .i64 0], .agg #[.int .i64 0, .string ⟨#[]⟩, .string ⟨#[]⟩], .string ⟨#[]⟩, .slice none 0 0] 8 (World.laidAll_os _ _ _)
     (World.shaped_of_ZipB (by kernel_rfl) (by kernel_rfl)) (by kernel_rfl) (by kernel_rfl) (by kernel_rfl)
     (by rw [MakeChecks.laidMetH_plain _ _ _ (by kernel_rfl)]; exact laidMet_laidAll _ (by kernel_rfl) (by kernel_rfl))) ?_
 intro W base args ds gs before hval0 hW hsh _
 have hval : ∀ (j : Nat) t v, Tryz.f3.params[j]? = some t → args[j]? = some v → Value.okWide Tryz.prog W .any base t v := hval0
 have hW' := hW
 obtain ⟨p, q, hA0, hV, rfl, _, _⟩ := hW
 have hA : DataW.TrodAll enc Tryz.prog W 0 (fun _ => true) true Tryz.f3.params.toList args.toList ds p := hA0
 rw [Tryz.params3] at hA hval
 have hlt := DataW.TrodAll.lt hA
 obtain ⟨v0, v1, v2, v3, v4, d0, d1, d2, d3, d4, p0, p1, p2, p3, p4, rfl, rfl, rfl, h0, h1, h2, h3, h4⟩ := trodAll_five' hA
 obtain ⟨rfl, rfl⟩ := trodVars_none hV
 obtain ⟨A, c, lex, rfl, hr, hll, hls⟩ := open_lex (hval 0 24 v0 rfl rfl) h0
 obtain ⟨t, A1, A2, c1, c2, rfl, hi, htl, htv, htc⟩ := open_ts (hval 1 27 v1 rfl rfl) h1
 obtain ⟨b, rfl, hbp, hbc⟩ := open_bd (hval 2 29 v2 rfl rfl) h2
 obtain ⟨s, hs⟩ : ∃ s : ByteArray, v3 = .string s := okWide_string Tryz.underlying9 (hval 3 9 v3 rfl rfl)
 subst hs
 obtain ⟨A5, c5, ms, rfl, h5, hf5, hm1, hm2⟩ := open_mvs (hval 4 30 v4 rfl rfl) h4
 simp only [List.append_nil, List.append_assoc] at hW'
 have hl0 : ∀ x ∈ p0, x.block < W.heap.size := fun x hx => hlt x (by simp [hx])
 have hl1 : ∀ x ∈ p1, x.block < W.heap.size := fun x hx => hlt x (by simp [hx])
 have hl2 : ∀ x ∈ p2, x.block < W.heap.size := fun x hx => hlt x (by simp [hx])
 have hl3 : ∀ x ∈ p3, x.block < W.heap.size := fun x hx => hlt x (by simp [hx])
 have hl4 : ∀ x ∈ p4, x.block < W.heap.size := fun x hx => hlt x (by simp [hx])
 refine Calls.mono (law_check_any A c lex t A1 A2 c1 c2 b s.data.toList A5 c5 ms W (max_shaped hsh) hr hi h5 hf5 hm1 hm2 hll hls htl htv htc hbp hbc) fun e W' ⟨he, hb⟩ => ?_
 subst he
 exact ⟨_, rfl, _, _, _, [], _, [], hW', trodAll_mk1 (shut_bool Tryz.underlying4 _),
   trodAll_mk5' (Below.trod laidOutM (by kernel_rfl) (of_decide_eq_true (by kernel_rfl)) h0 hb hl0) (Below.trod laidOutM (by kernel_rfl) (of_decide_eq_true (by kernel_rfl)) h1 hb hl1) (Below.trod laidOutM (by kernel_rfl) (of_decide_eq_true (by kernel_rfl)) h2 hb hl2) (Below.trod laidOutM (by kernel_rfl) (of_decide_eq_true (by kernel_rfl)) h3 hb hl3) (Below.trod laidOutM (by kernel_rfl) (of_decide_eq_true (by kernel_rfl)) h4 hb hl4), rfl, hb.frame _, fun h => by cases h⟩
theorem band {a b : Bool} (h1 : a = true) (h2 : b = true) : (a && b) = true := by rw [h1, h2]; rfl
theorem cl0 : (Rows.fnExactCheckMovesRow.wf (OpenSpec.ofChange Rows.fnExactCheckMovesSpec)) = true := by kernel_rfl
theorem cl1 : (laidOutB Tryz.checked.prog) = true := by kernel_rfl
theorem cl2 : (mapsRowed Tryz.checked.prog) = true := by kernel_rfl
theorem cl3 : (Tryz.f3.params.all (Tryz.checked.prog.readableRec ·)) = true := by kernel_rfl
theorem cl4 : (namedTie Tryz.checked.prog Rows.fnExactCheckMovesRow.named Rows.fnExactCheckMovesSpec.vars) = true := by kernel_rfl
theorem cl5 : (Rows.fnExactCheckMovesRow.stops == []) = true := by kernel_rfl
theorem cl6 : (Tryz.checked.prog.stops == []) = true := by kernel_rfl
theorem cl7 : (Rows.fnExactCheckMovesRow.knobs == []) = true := by kernel_rfl
theorem cl8 : (Tryz.checked.prog.stopKnobs == []) = true := by kernel_rfl
theorem cl9 : (Rows.fnExactCheckMovesRow.inPlace == Tryz.checked.prog.inPlace 3) = true := by kernel_rfl
theorem cl10 : (Rows.fnExactCheckMovesRow.unfollowed == Tryz.checked.prog.unfollowed 3) = true := by kernel_rfl
theorem cl11 : (Rows.fnExactCheckMovesRow.recurses == Tryz.checked.prog.recurses 3) = true := by kernel_rfl
theorem cl12 : (Rows.fnExactCheckMovesRow.named == Tryz.checked.prog.varsNamed 3) = true := by kernel_rfl
theorem cl13 : (Rows.fnExactCheckMovesRow.maps == (Tryz.f3.params.toList ++ Rows.fnExactCheckMovesSpec.plain.varTypes Tryz.checked.prog).any (Tryz.checked.prog.mapsRec ·)) = true := by kernel_rfl
theorem cl14 : (Rows.fnExactCheckMovesRow.ifaces == (Tryz.f3.params.toList ++ Rows.fnExactCheckMovesSpec.plain.varTypes Tryz.checked.prog).any (Tryz.checked.prog.ifacesRec ·)) = true := by kernel_rfl
theorem cl15 : (Rows.fnExactCheckMovesRow.mapsOut == Tryz.checked.prog.mapsAmong Tryz.f3.resultTypes.toList) = true := by kernel_rfl
theorem cl16 : (Rows.fnExactCheckMovesRow.loops == (Tryz.f3.params.toList ++ Rows.fnExactCheckMovesSpec.plain.varTypes Tryz.checked.prog).any (Tryz.checked.prog.loopsFrom ·)) = true := by kernel_rfl
theorem cl17 : (Rows.fnExactCheckMovesRow.wideKeys == (Tryz.f3.params.toList ++ Rows.fnExactCheckMovesSpec.plain.varTypes Tryz.checked.prog ++ Tryz.f3.resultTypes.toList).any (Tryz.checked.prog.wideKeysFrom ·)) = true := by kernel_rfl
theorem cl18 : (Rows.fnExactCheckMovesSpec.vars.all (Tryz.checked.prog.varReadable ·)) = true := by kernel_rfl
theorem cl19 : (Tryz.f3.resultTypes.all (fun t => Tryz.checked.prog.readableRec t && decide (t < Tryz.checked.prog.types.size))) = true := by kernel_rfl
theorem cl20 : (Rows.fnExactCheckMovesRow.ifacesOut == Tryz.f3.resultTypes.toList.any (Tryz.checked.prog.ifacesRec ·)) = true := by kernel_rfl
theorem cl21 : (Rows.fnExactCheckMovesRow.loopsOut == Tryz.f3.resultTypes.toList.any (Tryz.checked.prog.loopsFrom ·)) = true := by kernel_rfl
theorem cl22 : (Rows.fnExactCheckMovesRow.plainKeys == Tryz.checked.prog.plainKeys) = true := by kernel_rfl
theorem cl23 : (Rows.fnExactCheckMovesRow.shortTexts.isNone) = true := by kernel_rfl
theorem cl24 : (Tryz.checked.prog.stopsHeard) = true := by kernel_rfl
theorem cl25 : (Tryz.checked.prog.mayEnter) = true := by kernel_rfl
theorem cl26 : (Rows.fnExactCheckMovesRow.lifted == Tryz.checked.prog.liftsFinal) = true := by kernel_rfl
theorem cl27 : (Tryz.checked.prog.make == some Rows.fnExactCheckMovesRow.make) = true := by kernel_rfl
theorem cl29 : (Rows.fnExactCheckMovesRow.pinned == Rows.fnExactCheckMovesRow.pinnedBy) = true := by kernel_rfl
theorem cl30 : (Rows.fnExactCheckMovesRow.veiled == (Tryz.f3.params.toList ++ Rows.fnExactCheckMovesSpec.plain.varTypes Tryz.checked.prog ++ Tryz.f3.resultTypes.toList).any (Tryz.checked.prog.veiledRec ·)) = true := by kernel_rfl
theorem cl31 : (Rows.fnExactCheckMovesRow.veiledFits Tryz.checked.prog Tryz.f3.params.toList (Tryz.f3.params.toList ++ Rows.fnExactCheckMovesSpec.plain.varTypes Tryz.checked.prog ++ Tryz.f3.resultTypes.toList)) = true := by kernel_rfl
theorem cl_FnExactCheckMoves : joinedFacts Tryz.checked.prog 3 Tryz.f3 Rows.fnExactCheckMovesSpec Rows.fnExactCheckMovesRow = true := by
 unfold joinedFacts
 refine band (band (band (band (band (band (band (band (band (band (band (band (band (band (band (band (band (band (band (band (band (band (band (band (band (band (band (band (band (band (band (cl0) cl1) cl2) cl3) cl4) cl5) cl6) cl7) cl8) cl9) cl10) cl11) cl12) cl13) cl14) cl15) cl16) cl17) cl18) cl19) cl20) cl21) cl22) cl23) cl24) cl25) cl26) cl27) ?_) cl29) cl30) cl31
 kernel_rfl
theorem fnExactCheckMoves_holds : Rows.FnExactCheckMovesSaid :=
 OpenClaim.holds_of_wide 3 Tryz.f3 rfl rfl rfl rfl rfl rfl rfl ⟨rfl, rfl, rfl, rfl, rfl⟩ rfl rfl rfl rfl rfl (by kernel_rfl) Tryz.func3 cl_FnExactCheckMoves
   (of_decide_eq_true (by kernel_rfl)) (by unfold Func.isWrapper; first | (rw [if_pos (by decide +kernel)]; kernel_rfl) | (rw [if_neg (by decide +kernel)]; exact ⟨rfl, rfl⟩))
   (fun os started H enc _ => lifted_check os started H enc)
#print axioms fnExactCheckMoves_holds
end Go.Proofs.YtdkckikobefekaaGreatDoor
