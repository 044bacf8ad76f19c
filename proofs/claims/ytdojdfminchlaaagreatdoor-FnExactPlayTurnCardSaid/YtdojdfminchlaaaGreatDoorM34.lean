/-
  What a turn with a play answers, of the spec package; The law of PlayTurn.
  Conditions: as each part below says.
-/
import Derived.Test.YtdojdfminchlaaaGreatDoorM32
import Derived.Test.YtdojdfminchlaaaGreatDoorM33
import Derived.Test.YtdojdfminchlaaaGreatDoorM31
import Derived.Test.YtdojdfminchlaaaGreatDoorM19
import Derived.Test.YtdojdfminchlaaaGreatDoorM20
import Derived.Test.YtdojdfminchlaaaGreatDoorM28
set_option linter.unusedSimpArgs false
set_option linter.unusedVariables false
/-
  What a turn with a play answers, of the spec package.
  Conditions: none.
-/
namespace Go.Proofs.YtdojdfminchlaaaGreatDoor
namespace Ax
set_option maxRecDepth 100000
set_option maxHeartbeats 2000000
def sp_s_PlayTurn (p : Pr) : FSpec := fsp (ac (aA aGm) (ac (aA aPl) (a1 aI))) (fun (g, q, n) => StP' g q) (fun (g, q, n) => .tup [.agg (gmO6 (turnR g q n)), .i .i64 (turnS' g q n), .i .i64 (turnC g q n)]) (fun (g, q, n) => gmH6 (turnR g q n))
def spStN (p : Pr) : FSpec := fsp (ac (aA aGm) (ac (aA aPl) (a1 aI))) (fun (g, q, n) => StN g q n) (fun (g, q, n) => .tup [.agg (gmO6 gm0), .i .i64 0, .i .i64 (turnC g q n)]) (fun _ => gmH6 gm0)
theorem okStN : FOk Tryz.prog 7 (spStN std) := FOk.own ok_s_PlayTurn_n rfl fun ⟨g, q, n⟩ w e u h hr =>
  tup_fol (.cons (agg_fol (esl_fol h)) (.cons (fun _ h => h) (.cons (fun _ h => h) .nil))) u hr
theorem ok_s_PlayTurn : FOk Tryz.prog 7 (sp_s_PlayTurn std) := FOk.casesE ok_s_PlayTurn_y okStN fun ⟨g, q, n⟩ hp => by
  by_cases hc : turnC g q n = 0
  · obtain ⟨e1, e2⟩ := qG_eq (g := g) (q := q) (n := n) hc
    refine .inl ⟨⟨hp, hc⟩, ?_, ?_⟩
    · show PV.tup [.agg (gmO6 (qG g q n)), .i .i64 (qScore g q), .i .i64 0] = .tup [.agg (gmO6 (turnR g q n)), .i .i64 (turnS' g q n), .i .i64 (turnC g q n)]
      unfold turnR turnS'
      rw [if_pos hc, if_pos hc, hc, e1, e2]
    · show gmH6 (qG g q n) = gmH6 (turnR g q n)
      unfold turnR
      rw [if_pos hc, e1]
  · refine .inr ⟨⟨hp, hc⟩, ?_, ?_⟩
    · show PV.tup [.agg (gmO6 gm0), .i .i64 0, .i .i64 (turnC g q n)] = .tup [.agg (gmO6 (turnR g q n)), .i .i64 (turnS' g q n), .i .i64 (turnC g q n)]
      unfold turnR turnS'
      rw [if_neg hc, if_neg hc]
    · show gmH6 gm0 = gmH6 (turnR g q n)
      unfold turnR
      rw [if_neg hc]
end Ax
end Go.Proofs.YtdojdfminchlaaaGreatDoor
/-
  The law of PlayTurn.
  Conditions: none.
-/
namespace Go.Proofs.YtdojdfminchlaaaGreatDoor
namespace Ax
set_option maxRecDepth 100000
set_option maxHeartbeats 20000000
theorem eta_gm (g : Gm) : Gm.mk g.ts g.lex g.bd0 g.secs g.rule g.bd g.bag g.racks g.scores g.clocks g.player g.zeros g.last g.over = g := rfl
theorem turnR_n {g : Gm} {q : Pl} {n : Int} (h : GmN g) : GmN (turnR g q n) := by
  obtain ⟨⟨⟨h1, h2⟩, h3⟩, h4, h5, h6⟩ := h
  have e : GmN (turn1 g q n) := ⟨⟨⟨h1, h2⟩, h3⟩, by show ((g.racks.set _ _).length : Int) ≤ _; rw [List.length_set]; exact h4, by show ((g.scores.set _ _).length : Int) ≤ _; rw [List.length_set]; exact h5, by show ((g.clocks.set _ _).length : Int) ≤ _; rw [List.length_set]; exact h6⟩
  unfold turnR
  split
  · unfold turnG
    split
    · exact ⟨e.su, e.r, by show (2 : Int) ≤ _; decide, e.k⟩
    · exact e
  · exact ⟨⟨⟨by decide, by decide⟩, by decide⟩, by decide, by decide, by decide⟩
theorem markGm_n {g : Gm} {k : Int} (h : GmN g) : GmN (markGm k g) := by
  obtain ⟨⟨⟨h1, h2⟩, h3⟩, h4, h5, h6⟩ := h
  exact ⟨⟨⟨by show ((marksN _ _).length : Int) ≤ _; rw [marksN_len]; exact h1, by show ((marksN _ _).length : Int) ≤ _; rw [marksN_len]; exact h2⟩, by show ((marksW _ _).length : Int) ≤ _; rw [marksW_len]; exact h3⟩,
    by show ((marksW _ _).length : Int) ≤ _; rw [marksW_len]; exact h4, by show ((marksN _ _).length : Int) ≤ _; rw [marksN_len]; exact h5, by show ((marksN _ _).length : Int) ≤ _; rw [marksN_len]; exact h6⟩
theorem la (x : Gm) (h : std.ltI (endGm 1 x) 0 = true) : False := by
  have := lt_of h
  have := (held_mark (k := 1) (by decide) x).2
  omega
theorem lb (x : Gm) (h : std.ltI (heldGm (markGm 1 x) 1) 0 = true) : False := by
  rw [(held_mark (k := 1) (by decide) x).1] at h
  exact la x h
theorem ld (x : Gm) (h : std.eqI (heldGm (markGm 1 x) 1) (endGm 1 x) = false) : False := by
  rw [(held_mark (k := 1) (by decide) x).1] at h
  exact eqI_f h rfl
structure LawP (g : Gm) (q : Pl) : Prop where
  z : GmZ g
  w : (q.word.length : Int) ≤ 9223372036854775807
def sp_l_FnExactPlayTurn (p : Pr) : FSpec := fsp (ac (aA aGm) (ac (aA aPl) (a1 aI))) (fun (g, q, n) => LawP g q) (fun (g, q, n) => .bt)
theorem ok_l_FnExactPlayTurn : FOk Tryz.prog 3 (sp_l_FnExactPlayTurn std) := by
  refine FOk.go (c := cx std [(5, sp_l_szGame std), (6, sp_l_szPlay std), (8, sp_l_toGame std), (9, sp_l_toPlay std), (7, sp_s_PlayTurn std), (10, sp_PlayTurn std), (11, sp_l_eqGame std), (13, sp_l_heldGame std)] [(12, sp_l_markGame std)] 0) (cx_ok (.cons ok_l_szGame (.cons ok_l_szPlay (.cons ok_l_toGame (.cons ok_l_toPlay (.cons ok_s_PlayTurn (.cons ok_PlayTurn (.cons ok_l_eqGame (.cons ok_l_heldGame .nil)))))))) (.cons ok_l_markGame .nil)) mixed Tryz.func3 rfl rfl rfl (by kernel_rfl) ?_
  rintro ⟨g, q, n⟩ hp
  dsimp only at hp
  refine ⟨rfl, ?_⟩
  unfold sp_l_szGame sp_l_szPlay sp_l_toGame sp_l_toPlay sp_s_PlayTurn sp_PlayTurn sp_l_eqGame sp_l_heldGame sp_l_markGame
  generalize hP : std = p
  generalize hB0 : szG = B0
  generalize hB1 : szP = B1
  generalize hB2 : turnR = B2
  generalize hB3 : turnS' = B3
  generalize hB4 : turnC = B4
  generalize hB5 : qeGm = B5
  generalize hB6 : heldGm = B6
  generalize hB7 : endN = B7
  generalize hB8 : endW = B8
  generalize hB9 : endTs = B9
  generalize hB10 : endSu = B10
  generalize hB11 : endG1 = B11
  generalize hB12 : endG2 = B12
  generalize hB13 : endGm = B13
  generalize hB14 : markN = B14
  generalize hB15 : markW = B15
  cbv
  repeat' first
    | (refine fun (_ : Unit) => ?_; cbv)
    | (refine And.intro (fun h => ?_) (fun h => ?_) <;> cbv)
    | (refine And.intro ?_ ?_)
    | (refine Or.inl (fun (_ : Unit) => ?_); cbv)
  all_goals subst hP hB0 hB1 hB2 hB3 hB4 hB5 hB6 hB7 hB8 hB9 hB10 hB11 hB12 hB13 hB14 hB15
  all_goals try first
    | exact True.intro
    | with_reducible assumption
    | with_reducible exact byte_in
    | with_reducible exact hp.1
    | with_reducible exact hp.2
    | with_reducible exact hp.2.1
    | with_reducible exact hp.2.2
    | (simp [std] at * <;> lia)
    | rfl
  all_goals (try simp only [eta_ts, eta_bd, eta_pl, eta_la, eta_gm] at *)
  · exact ⟨by decide, by decide⟩
  · have h0 : 0 ≤ szG 1048576 g := ge_of h
    exact ⟨h0, Int.le_trans (zG h0).2.1 (by decide)⟩
  · exact hp.w
  all_goals have h0 : 0 ≤ szG 1048576 g := ge_of (by with_reducible assumption)
  all_goals have h1 : 0 ≤ szP (szG 1048576 g) q := ge_of (by with_reducible assumption)
  all_goals have hB := (zG h0).2.2
  all_goals have hq : (q.word.length : Int) ≤ 1048576 := Int.le_trans (zP h1).2.2 (zG h0).2.1
  all_goals have hN := hB.n (by decide)
  all_goals have hR := turnR_n (q := q) (n := n) hN
  · exact hN
  · exact hB.s (by decide) hq
  · exact hN
  · exact hB.q (by decide) hq
  · exact hR
  · exact hN
  · exact hN
  · have e : qeGm g g = false := by with_reducible assumption
    rw [qeGm_r] at e; cases e
  · exact ⟨by decide, by decide, hN⟩
  · exact hR
  · exact ⟨by decide, by decide, hR⟩
  · exact ⟨by decide, by decide, markGm_n hR⟩
  · exact (lb (turnR g q n) h).elim
  · exact (ld (turnR g q n) h).elim
  · exact hN
  · exact hB.q (by decide) hq
  · exact hR
  · exact ⟨by decide, by decide, markGm_n hR⟩
  · exact (la g h).elim
  · rw [qeGm_r] at h; cases h
end Ax
end Go.Proofs.YtdojdfminchlaaaGreatDoor
