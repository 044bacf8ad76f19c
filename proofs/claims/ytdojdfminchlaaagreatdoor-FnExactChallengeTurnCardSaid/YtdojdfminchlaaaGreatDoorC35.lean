/-
  The law of ChallengeTurn.
  Conditions: as each part below says.
-/
import Derived.Test.YtdojdfminchlaaaGreatDoorC26
import Derived.Test.YtdojdfminchlaaaGreatDoorC27
import Derived.Test.YtdojdfminchlaaaGreatDoorC34
set_option linter.unusedSimpArgs false
set_option linter.unusedVariables false
/-
  The law of ChallengeTurn.
  Conditions: none.
-/
namespace Go.Proofs.YtdojdfminchlaaaGreatDoor
namespace Ax
set_option maxRecDepth 100000
set_option maxHeartbeats 20000000
theorem eta_gmc (g : Gm) : Gm.mk g.ts g.lex g.bd0 g.secs g.rule g.bd g.bag g.racks g.scores g.clocks g.player g.zeros g.last g.over = g := rfl
def chVd (g : Gm) (n : Int) : Vd := ⟨chW g n, chX g n, chU g n, chP g n⟩
section
variable {g X : Gm} {n : Int} {v : Vd}
theorem setSc_n (g : Gm) : ((setSc g).length : Int) ≤ 1073741824 := by show (2 : Int) ≤ _; decide
theorem chR_n (h : GmN g) : GmN (chR g n) := by
  obtain ⟨⟨⟨h1, h2⟩, h3⟩, h4, h5, h6⟩ := h
  have e6 : ((ckL g n).length : Int) ≤ 1073741824 := by unfold ckL; rw [List.length_set]; exact h6
  unfold chR
  split
  · unfold chG
    split
    · refine ⟨⟨⟨h1, h2⟩, h3⟩, ?_, ?_, e6⟩
      · show ((g.racks.set _ _).length : Int) ≤ _
        rw [List.length_set]; exact h4
      · show ((wSs (clockG g n)).length : Int) ≤ _
        unfold wSs
        split
        · exact setSc_n _
        · show ((g.scores.set _ _).length : Int) ≤ _
          rw [List.length_set]; exact h5
    · unfold rfG
      split
      · exact ⟨⟨⟨h1, h2⟩, h3⟩, h4, setSc_n _, e6⟩
      · refine ⟨⟨⟨h1, h2⟩, h3⟩, h4, ?_, e6⟩
        show ((g.scores.set _ _).length : Int) ≤ _
        rw [List.length_set]; exact h5
  · exact ⟨⟨⟨by decide, by decide⟩, by decide⟩, by decide, by decide, by decide⟩
theorem chVd_n : VdN (chVd g n) := by
  by_cases hc : chC g n = 0
  · have hF := chc_of hc
    have h3 := words_n g.bef g.last.play
    have h4 := (okB_on (pkf hF.ok).ok).on.len
    have e1 : chW g n = wordsL g.bef g.last.play := if_pos hc
    have e2 : chX g n = wrongL g.bef g.lex g.last.play := if_pos hc
    have h5 : (wrongL g.bef g.lex g.last.play).length ≤ (wordsL g.bef g.last.play).length := List.length_filter_le _ _
    exact ⟨by show ((chW g n).length : Int) ≤ _; rw [e1]; omega, by show ((chX g n).length : Int) ≤ _; rw [e2]; omega⟩
  · have e1 : chW g n = [] := if_neg hc
    have e2 : chX g n = [] := if_neg hc
    exact ⟨by show ((chW g n).length : Int) ≤ _; rw [e1]; decide, by show ((chX g n).length : Int) ≤ _; rw [e2]; decide⟩
theorem markGn (h : GmN g) : GmN (markGm 1 g) := by
  obtain ⟨⟨⟨h1, h2⟩, h3⟩, h4, h5, h6⟩ := h
  exact ⟨⟨⟨by show ((marksN _ _).length : Int) ≤ _; rw [marksN_len]; exact h1, by show ((marksN _ _).length : Int) ≤ _; rw [marksN_len]; exact h2⟩, by show ((marksW _ _).length : Int) ≤ _; rw [marksW_len]; exact h3⟩,
    by show ((marksW _ _).length : Int) ≤ _; rw [marksW_len]; exact h4, by show ((marksN _ _).length : Int) ≤ _; rw [marksN_len]; exact h5, by show ((marksN _ _).length : Int) ≤ _; rw [marksN_len]; exact h6⟩
theorem end_bd (h : GmN X) : 0 ≤ endGm 1 X ∧ endGm 1 X ≤ 17179869184 := by
  obtain ⟨⟨⟨h1, h2⟩, h3⟩, h4, h5, h6⟩ := h
  have h1 : (X.ts.values.length : Int) ≤ 1073741824 := h1
  have h2 : (X.ts.counts.length : Int) ≤ 1073741824 := h2
  have h3 : (X.lex.length : Int) ≤ 1073741824 := h3
  show 0 ≤ 1 + (X.ts.values.length : Int) + (X.ts.counts.length : Int) + (X.lex.length : Int) + (X.racks.length : Int) + (X.scores.length : Int) + (X.clocks.length : Int) ∧ 1 + (X.ts.values.length : Int) + (X.ts.counts.length : Int) + (X.lex.length : Int) + (X.racks.length : Int) + (X.scores.length : Int) + (X.clocks.length : Int) ≤ _
  omega
theorem knv1 (h : GmN X) (hv : VdN v) : KnV (endGm 1 X) v := ⟨(end_bd h).1, (end_bd h).2, hv⟩
theorem markVd_n {k : Int} (hv : VdN v) : VdN (markVd k v) := ⟨by show ((marksW _ _).length : Int) ≤ _; rw [marksW_len]; exact hv.a, by show ((marksW _ _).length : Int) ≤ _; rw [marksW_len]; exact hv.b⟩
theorem knv2 (h : GmN X) (hv : VdN v) : KnV (heldGm (markGm 1 X) 1) (markVd (endGm 1 X) v) := by
  rw [(held_mark (k := 1) (by decide) X).1]
  exact knv1 h (markVd_n hv)
theorem lca (X : Gm) (h : std.ltI (endGm 1 X) 0 = true) : False := by
  have := lt_of h
  have := (held_mark (k := 1) (by decide) X).2
  omega
theorem lcb (X : Gm) (h : std.ltI (heldGm (markGm 1 X) 1) 0 = true) : False := by
  rw [(held_mark (k := 1) (by decide) X).1] at h
  exact lca X h
theorem lcv (X : Gm) (v : Vd) (h : std.ltI (heldVd (markVd (endGm 1 X) v) (heldGm (markGm 1 X) 1)) 0 = true) : False := by
  have h0 := (held_mark (k := 1) (by decide) X).2
  rw [(held_mark (k := 1) (by decide) X).1, (heldVd_mark h0 v).1] at h
  have := lt_of h
  have := (heldVd_mark h0 v).2
  omega
theorem lcd (X : Gm) (v : Vd) (h : std.eqI (heldVd (markVd (endGm 1 X) v) (heldGm (markGm 1 X) 1)) (endVd (endGm 1 X) v) = false) : False := by
  have h0 := (held_mark (k := 1) (by decide) X).2
  rw [(held_mark (k := 1) (by decide) X).1, (heldVd_mark h0 v).1] at h
  exact eqI_f h rfl
end
def sp_l_FnExactChallengeTurn (p : Pr) : FSpec := fsp (ac (aA aGm) (a1 aI)) (fun (g, n) => GmZ g) (fun (g, n) => .bt)
theorem ok_l_FnExactChallengeTurn : FOk Tryz.prog 4 (sp_l_FnExactChallengeTurn std) := by
  refine FOk.go (c := cx std [(5, sp_l_szGame std), (8, sp_l_toGame std), (14, sp_s_ChallengeTurn std), (15, sp_i_ChallengeTurn std), (11, sp_l_eqGame std), (16, sp_l_eqVerdict std), (13, sp_l_heldGame std), (18, sp_l_heldVerdict std)] [(12, sp_l_markGame std), (17, sp_l_markVerdict std)] 0) (cx_ok (.cons ok_l_szGame (.cons ok_l_toGame (.cons ok_s_ChallengeTurn (.cons ok_i_ChallengeTurn (.cons ok_l_eqGame (.cons ok_l_eqVerdict (.cons ok_l_heldGame (.cons ok_l_heldVerdict .nil)))))))) (.cons ok_l_markGame (.cons ok_l_markVerdict .nil))) mixed Tryz.func4 rfl rfl rfl (by kernel_rfl) ?_
  rintro ⟨g, n⟩ hp
  dsimp only at hp
  refine ⟨rfl, ?_⟩
  unfold sp_l_szGame sp_l_toGame sp_s_ChallengeTurn sp_i_ChallengeTurn sp_l_eqGame sp_l_eqVerdict sp_l_heldGame sp_l_heldVerdict sp_l_markGame sp_l_markVerdict
  generalize hP : std = p
  generalize hB0 : szG = B0
  generalize hB1 : chR = B1
  generalize hB2 : chW = B2
  generalize hB3 : chX = B3
  generalize hB4 : chU = B4
  generalize hB5 : chP = B5
  generalize hB6 : chC = B6
  generalize hB7 : qeGm = B7
  generalize hB8 : qeVd = B8
  generalize hB9 : heldGm = B9
  generalize hB10 : heldVd = B10
  generalize hB11 : endN = B11
  generalize hB12 : endW = B12
  generalize hB13 : endTs = B13
  generalize hB14 : endSu = B14
  generalize hB15 : endG1 = B15
  generalize hB16 : endG2 = B16
  generalize hB17 : endGm = B17
  generalize hB18 : endVd = B18
  generalize hB19 : markN = B19
  generalize hB20 : markW = B20
  cbv
  repeat' first
    | (refine fun (_ : Unit) => ?_; cbv)
    | (refine And.intro (fun h => ?_) (fun h => ?_) <;> cbv)
    | (refine And.intro ?_ ?_)
    | (refine Or.inl (fun (_ : Unit) => ?_); cbv)
  all_goals subst hP hB0 hB1 hB2 hB3 hB4 hB5 hB6 hB7 hB8 hB9 hB10 hB11 hB12 hB13 hB14 hB15 hB16 hB17 hB18 hB19 hB20
  all_goals try first
    | exact True.intro
    | with_reducible assumption
    | with_reducible exact byte_in
    | with_reducible exact hp.1
    | with_reducible exact hp.2
    | with_reducible exact hp.2.1
    | with_reducible exact hp.2.2
    | (simp [std] at * <;> lia)
    | rfl
  all_goals (try simp only [eta_ts, eta_bd, eta_pl, eta_la, eta_gmc] at *)
  · exact ⟨by decide, by decide⟩
  all_goals have h0 : 0 ≤ szG 1048576 g := ge_of (by with_reducible assumption)
  all_goals have hB := (zG h0).2.2
  all_goals have hN := hB.n (by decide)
  all_goals have hR := chR_n (n := n) hN
  all_goals have hV := chVd_n (g := g) (n := n)
  all_goals have hs := hB.s (q := ⟨0, 0, false, []⟩) (by decide) (by decide)
  all_goals have hq := hB.q (q := ⟨0, 0, false, []⟩) (by decide) (by decide)
  · exact hN
  · exact ⟨hs.gm, hs.own⟩
  · exact hN
  · exact ⟨hq.gm, hq.cp⟩
  · exact hR
  · exact hV
  · exact hN
  · exact hN
  · have e : qeGm g g = false := by with_reducible assumption
    rw [qeGm_r] at e; cases e
  · exact ⟨by decide, by decide, hN⟩
  · exact hR
  · exact hV
  · exact ⟨by decide, by decide, hR⟩
  · exact knv1 hR hV
  · exact ⟨by decide, by decide, markGn hR⟩
  · exact (lcb (chR g n) h).elim
  · exact knv2 hR hV
  · exact (lcv (chR g n) (chVd g n) h).elim
  · exact (lcd (chR g n) (chVd g n) h).elim
  · exact hN
  · exact ⟨hq.gm, hq.cp⟩
  · exact hR
  · exact hV
  · exact ⟨by decide, by decide, markGn hR⟩
  · exact knv2 hR hV
  · exact (lca g h).elim
  · rw [qeVd_r] at h; cases h
  · rw [qeGm_r] at h; cases h
end Ax
end Go.Proofs.YtdojdfminchlaaaGreatDoor
