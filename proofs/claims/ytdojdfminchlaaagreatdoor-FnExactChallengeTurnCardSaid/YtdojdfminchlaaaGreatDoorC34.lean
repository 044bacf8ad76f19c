/-
  What a challenge answers, of the impl package.
  Conditions: as each part below says.
-/
import Derived.Test.YtdojdfminchlaaaGreatDoorC32
import Derived.Test.YtdojdfminchlaaaGreatDoorC33
set_option linter.unusedSimpArgs false
set_option linter.unusedVariables false
/-
  What a challenge answers, of the impl package.
  Conditions: none.
-/
namespace Go.Proofs.YtdojdfminchlaaaGreatDoor
namespace Ax
set_option maxRecDepth 100000
set_option maxHeartbeats 20000000
structure ChN (g : Gm) (n : Int) : Prop where
  b : ChP g
  c : chC g n ≠ 0
def sp_i_ChallengeTurn_n (p : Pr) : FSpec := fsp (ac (aA aGm) (a1 aI)) (fun (g, n) => ChN g n) (fun (g, n) => .tup [.agg (gmK gm0 .esl .esl .esl .esl .esl .esl), .agg [.esl, .esl, .b false, .i .i64 0], .i .i64 (chC g n)])
theorem ok_i_ChallengeTurn_n : FOk Tryz.prog 15 (sp_i_ChallengeTurn_n std) := by
  refine FOk.goD (c := cx std [(44, sp_i_actionCode std), (70, sp_i_Game_canChallenge std), (72, sp_i_Game_verdict std), (48, sp_i_copyGame std)] [(73, sp_i_xGame_withdraw std), (74, sp_i_xGame_refuse std)] 0) (cx_ok (.cons ok_i_actionCode (.cons ok_i_Game_canChallenge (.cons ok_i_Game_verdict (.cons ok_i_copyGame .nil)))) (.cons ok_i_xGame_withdraw (.cons ok_i_xGame_refuse .nil))) mixed Tryz.func15 rfl rfl rfl (by kernel_rfl) Tryz.func71 rfl (by kernel_rfl) rfl rfl ?_
  rintro ⟨g, n⟩ hp
  dsimp only at hp
  refine ⟨rfl, ?_⟩
  unfold sp_i_actionCode sp_i_Game_canChallenge sp_i_Game_verdict sp_i_copyGame sp_i_xGame_withdraw sp_i_xGame_refuse
  generalize hP : std = p
  generalize hB0 : actC = B0
  generalize hB1 : canB = B1
  generalize hB2 : vUp = B2
  generalize hB3 : vPts = B3
  generalize hB4 : vWords = B4
  generalize hB5 : vWrong = B5
  generalize hB6 : iUp = B6
  generalize hB7 : iPts = B7
  generalize hB8 : iWords = B8
  generalize hB9 : iWrong = B9
  generalize hB10 : wBag = B10
  generalize hB11 : iRks = B11
  generalize hB12 : iSs = B12
  generalize hB13 : wZe = B13
  generalize hB14 : iOv = B14
  generalize hB15 : iRf = B15
  generalize hB16 : waitsB = B16
  generalize hB17 : ckL = B17
  generalize hB18 : chC = B18
  cbv
  repeat' first
    | (refine fun (_ : Unit) => ?_; cbv)
    | (refine And.intro (fun h => ?_) (fun h => ?_) <;> cbv)
    | (refine And.intro ?_ ?_)
    | (refine Or.inl (fun (_ : Unit) => ?_); cbv)
  all_goals subst hP hB0 hB1 hB2 hB3 hB4 hB5 hB6 hB7 hB8 hB9 hB10 hB11 hB12 hB13 hB14 hB15 hB16 hB17 hB18
  all_goals try first
    | exact True.intro
    | with_reducible assumption
    | with_reducible exact byte_in
    | with_reducible exact hp.1
    | with_reducible exact hp.2
    | with_reducible exact hp.2.1
    | with_reducible exact hp.2.2
    | (simp [std] at * <;> lia)
    | rfl
  all_goals try (exfalso; exact cn3 hp.c (by assumption) (by assumption))
  all_goals first
    | exact hp.b.gm
    | exact cn1 (by assumption)
    | exact cn2 (by assumption) (by assumption)
    | skip
def sp_i_ChallengeTurn (p : Pr) : FSpec := fsp (ac (aA aGm) (a1 aI)) (fun (g, n) => ChP g) (fun (g, n) => .tup [.agg (gmO6 (chR g n)), .agg [.osl 6, .osl 7, .b (chU g n), .i .i64 (chP g n)], .i .i64 (chC g n)]) (fun (g, n) => chH8 (chR g n) (chW g n) (chX g n))
def spChN (p : Pr) : FSpec := fsp (ac (aA aGm) (a1 aI)) (fun (g, n) => ChN g n) (fun (g, n) => .tup [.agg (gmO6 gm0), .agg [.osl 6, .osl 7, .b false, .i .i64 0], .i .i64 (chC g n)]) (fun _ => chH8 gm0 [] [])
theorem okChN : FOk Tryz.prog 15 (spChN std) := FOk.own ok_i_ChallengeTurn_n rfl fun ⟨g, n⟩ w e u h hr => esl8_fol h u hr
theorem ok_i_ChallengeTurn : FOk Tryz.prog 15 (sp_i_ChallengeTurn std) := FOk.casesE ok_i_ChallengeTurn_y okChN fun ⟨g, n⟩ hp => by
  by_cases hc : chC g n = 0
  · obtain ⟨e1, e2, e3, e4, e5⟩ := chG_rest g n
    refine .inl ⟨⟨hp, hc⟩, ?_, ?_⟩
    · show _ = PV.tup [.agg (gmO6 (chR g n)), .agg [.osl 6, .osl 7, .b (chU g n), .i .i64 (chP g n)], .i .i64 (chC g n)]
      unfold chR chU chP
      rw [if_pos hc, if_pos hc, if_pos hc, hc]
      show PV.tup [.agg (gmK ⟨g.ts, g.lex, g.bd0, g.secs, g.rule, (chG g n).bd, (chG g n).bag, (chG g n).racks, (chG g n).scores, (chG g n).clocks, (chG g n).player, (chG g n).zeros, (chG g n).last, (chG g n).over⟩ (.osl 0) (.osl 1) (.osl 2) (.osl 3) (.osl 4) (.osl 5)), _, _] = _
      rw [← e1, ← e2, ← e3, ← e4, ← e5]; rfl
    · show _ = chH8 (chR g n) (chW g n) (chX g n)
      unfold chR chW chX
      rw [if_pos hc, if_pos hc, if_pos hc]
      show chH8 ⟨g.ts, g.lex, g.bd0, g.secs, g.rule, (chG g n).bd, (chG g n).bag, (chG g n).racks, (chG g n).scores, (chG g n).clocks, (chG g n).player, (chG g n).zeros, (chG g n).last, (chG g n).over⟩ _ _ = _
      rw [← e1, ← e2, ← e3, ← e4, ← e5]
  · refine .inr ⟨⟨hp, hc⟩, ?_, ?_⟩
    · show _ = PV.tup [.agg (gmO6 (chR g n)), .agg [.osl 6, .osl 7, .b (chU g n), .i .i64 (chP g n)], .i .i64 (chC g n)]
      unfold chR chU chP
      rw [if_neg hc, if_neg hc, if_neg hc]
    · show chH8 gm0 [] [] = chH8 (chR g n) (chW g n) (chX g n)
      unfold chR chW chX
      rw [if_neg hc, if_neg hc, if_neg hc]
end Ax
end Go.Proofs.YtdojdfminchlaaaGreatDoor
