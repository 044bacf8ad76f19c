/-
  FnExactTryMoves: whatever the arguments, the law returns true and they read as they did (the row's statement).
  Conditions: as each part below says.
-/
import Derived.Test.YtohopceknpgcnaaGreatDoorRows
import Derived.Test.YtohopceknpgcnaaGreatDoorM27
/-
  FnExactTryMoves: whatever the arguments, the law returns true and they read as they did (the row's statement).
  Conditions: none of ours; what the row lists reads as the program's text lays it.
-/
namespace Go.Proofs.YtohopceknpgcnaaGreatDoor
open Go.ChangeShapes Go.WideShapes Go.ChangeAt Go.RowKit Go.Joins
open Go.ChangeMaps (open_string shut_string)
open RegP RegL RegV
set_option maxRecDepth 100000

theorem lifted (os : Os) (started : os.Started) (H : Type) (enc : TypeId × Value → H) :
    ReturnsInHanded {} Tryz.checked os 3 .any (fun w args => (Rows.fnExactTryMovesSpec.pre enc Tryz.prog Tryz.f3 [] false w args ∧ laidMetH Tryz.prog Rows.fnExactTryMovesRow.laid w) ∧ sizedMet enc Tryz.prog Tryz.f3 (OpenSpec.ofChange Rows.fnExactTryMovesSpec) false w args)
      (Rows.fnExactTryMovesSpec.post enc Tryz.prog Tryz.f3 false true false false) := by
  refine change_shaped_and (C := Tryz.checked) (X := fun w _ => laidMetH Tryz.prog Rows.fnExactTryMovesRow.laid w) (fun _ _ _ hh h => h.of_heap hh) ownM started (by kernel_rfl) Tryz.func3
    (ChangeSpec.witness_shaped (enc := enc) (C := Tryz.checked) (os := os) (X := fun w _ => laidMetH Tryz.prog Rows.fnExactTryMovesRow.laid w) false (World.laidAll Tryz.prog os Rows.fnExactTryMovesRow.laid) #[.agg #[.slice none 0 0], .agg #[.string ⟨#[]⟩, .slice none 0 0, .slice none 0 0, .int .i64 0], .agg #[.int .i64 0, .string ⟨#[]⟩, .string ⟨#[]⟩], .string ⟨#[]⟩] 8 (World.laidAll_os _ _ _)
      (World.shaped_of_ZipB (by kernel_rfl) (by kernel_rfl)) (by kernel_rfl) (by kernel_rfl) (by kernel_rfl)
      (by rw [MakeChecks.laidMetH_plain _ _ _ (by kernel_rfl)]; exact laidMet_laidAll _ (by kernel_rfl) (by kernel_rfl))) ?_
  intro W base args ds gs before hval0 hW hsh _
  have hval : ∀ (j : Nat) t v, Tryz.f3.params[j]? = some t → args[j]? = some v → Value.okWide Tryz.prog W .any base t v := hval0
  have hW' := hW
  obtain ⟨p, q, hA0, hV, rfl, _, _⟩ := hW
  have hA : DataW.TrodAll enc Tryz.prog W 0 (fun _ => true) true Tryz.f3.params.toList args.toList ds p := hA0
  rw [Tryz.params3] at hA hval
  have hlt := DataW.TrodAll.lt hA
  obtain ⟨v0, v1, v2, v3, d0, d1, d2, d3, p0, p1, p2, p3, rfl, rfl, rfl, h0, h1, h2, h3⟩ := trodAll_four hA
  obtain ⟨rfl, rfl⟩ := trodVars_none hV
  obtain ⟨A, c, lex, rfl, hr, hll, hls⟩ := open_lex (hval 0 24 v0 rfl rfl) h0
  obtain ⟨t, A1, A2, c1, c2, rfl, hi, htl, htv, htc⟩ := open_ts (hval 1 27 v1 rfl rfl) h1
  obtain ⟨b, rfl, hbp, hbc⟩ := open_bd (hval 2 29 v2 rfl rfl) h2
  obtain ⟨s, hs⟩ : ∃ s : ByteArray, v3 = .string s := okWide_string Tryz.underlying9 (hval 3 9 v3 rfl rfl)
  subst hs
  simp only [List.append_nil, List.append_assoc] at hW'
  have hl0 : ∀ x ∈ p0, x.block < W.heap.size := fun x hx => hlt x (by simp [hx])
  have hl1 : ∀ x ∈ p1, x.block < W.heap.size := fun x hx => hlt x (by simp [hx])
  have hl2 : ∀ x ∈ p2, x.block < W.heap.size := fun x hx => hlt x (by simp [hx])
  have hl3 : ∀ x ∈ p3, x.block < W.heap.size := fun x hx => hlt x (by simp [hx])
  refine Calls.mono (law_any A c lex t A1 A2 c1 c2 b s.data.toList W (max_shaped hsh) hr hi hll hls htl htv htc hbp hbc) fun e W' ⟨he, hb⟩ => ?_
  subst he
  exact ⟨_, rfl, _, _, _, [], _, [], hW', trodAll_mk1 (shut_bool Tryz.underlying4 _),
    trodAll_mk4 (Below.trod laidOutM (by kernel_rfl) (of_decide_eq_true (by kernel_rfl)) h0 hb hl0) (Below.trod laidOutM (by kernel_rfl) (of_decide_eq_true (by kernel_rfl)) h1 hb hl1) (Below.trod laidOutM (by kernel_rfl) (of_decide_eq_true (by kernel_rfl)) h2 hb hl2) (Below.trod laidOutM (by kernel_rfl) (of_decide_eq_true (by kernel_rfl)) h3 hb hl3), rfl, hb.frame _, fun h => by cases h⟩
theorem fnExactTryMoves_holds : Rows.FnExactTryMovesSaid :=
  OpenClaim.holds_of_wide 3 Tryz.f3 rfl rfl rfl rfl rfl rfl rfl ⟨rfl, rfl, rfl, rfl, rfl⟩ rfl rfl rfl rfl rfl (by kernel_rfl) Tryz.func3 (by kernel_rfl)
    (of_decide_eq_true (by kernel_rfl)) (by unfold Func.isWrapper; first | (rw [if_pos (by decide +kernel)]; kernel_rfl) | (rw [if_neg (by decide +kernel)]; exact ⟨rfl, rfl⟩))
    (fun os started H enc _ => lifted os started H enc)
#print axioms fnExactTryMoves_holds
end Go.Proofs.YtohopceknpgcnaaGreatDoor
