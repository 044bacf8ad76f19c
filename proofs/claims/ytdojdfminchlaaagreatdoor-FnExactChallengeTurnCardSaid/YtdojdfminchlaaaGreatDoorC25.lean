/-
  Tiles of a game, whether one waits, whether the last play and the last turn fit, of the impl package; Whether the last turn fits, valid games, codes of actions, of the impl package; Codes of actions, draws, ends, copies, of the impl package; How a game ends, of the impl package; The words of a play, whether it touches, its code: both packages' are the same; Valid games, codes of actions, turns with a play, of the spec package; Codes of actions, of the spec package; Exits of a turn with a play, of the spec package.
  Conditions: as each part below says.
-/
import Derived.Test.YtdojdfminchlaaaGreatDoorC24
import Derived.Test.YtdojdfminchlaaaGreatDoorC16
import Derived.Test.YtdojdfminchlaaaGreatDoorC19
import Derived.Test.YtdojdfminchlaaaGreatDoorC18
set_option linter.unusedSimpArgs false
set_option linter.unusedVariables false
/-
  Tiles of a game, whether one waits, whether the last play and the last turn fit, of the impl package.
  Conditions: none.
-/
namespace Go.Proofs.YtdojdfminchlaaaGreatDoor
namespace Ax
set_option maxRecDepth 100000
set_option maxHeartbeats 2000000
def tilesF (g : Gm) : Bool := pileL (countsL (((g.bag ++ g.racks.getD 0 []) ++ g.racks.getD 1 []) ++ tilesP (lettersS g.bd))) == allT g.ts
theorem rack_stp {s : List UInt8} (h : rackB s = true) : StP s := by
  have h1 := (rackB_asc h).1
  refine ⟨h1, ?_⟩
  unfold rackB at h
  rw [Bool.and_eq_true, decide_eq_true_eq] at h
  omega
theorem bag_stp {s : List UInt8} (h : bagB s = true) : StP s := by
  have h1 := bagB_tiles h
  refine ⟨h1, ?_⟩
  unfold bagB at h
  rw [Bool.and_eq_true, decide_eq_true_eq] at h
  omega
theorem tilesP_len (s : List UInt8) : (tilesP s).length ≤ 27 * s.length := by
  have h1 := counts_ct (s.map blankC)
  rw [List.length_map] at h1
  exact pileTo_bd (c := countsL (s.map blankC)) (m := s.length) (fun j => h1.hi j) 27
structure TfP (g : Gm) : Prop where
  ts : TlP g.ts
  bd : bdB g.bd = true
  bag : bagB g.bag = true
  rk2 : g.racks.length = 2
  rk0 : rackB (g.racks.getD 0 []) = true
  rk1 : rackB (g.racks.getD 1 []) = true
def sp_i_Game_tilesFit (p : Pr) : FSpec := fsp (a1 (aA aGm)) (fun g => TfP g) (fun g => .b (tilesF g))
theorem ok_i_Game_tilesFit : FOk Tryz.prog 147 (sp_i_Game_tilesFit std) := by
  refine FOk.go (c := cx std [(199, sp_i_Board_lettersOn std), (107, sp_i_tilesOf std), (111, sp_i_sorted std), (200, sp_i_allTiles std)] [] 0) (cx_ok (.cons ok_i_Board_lettersOn (.cons ok_i_tilesOf (.cons ok_i_sorted (.cons ok_i_allTiles .nil)))) .nil) mixed Tryz.func147 rfl rfl rfl (by kernel_rfl) ?_
  rintro g hp
  refine ⟨rfl, ?_⟩
  unfold sp_i_Board_lettersOn sp_i_tilesOf sp_i_sorted sp_i_allTiles
  generalize hP : std = p
  generalize hB0 : tilesF = B0
  generalize hB1 : pileL = B1
  generalize hB2 : countsL = B2
  generalize hB3 : tilesP = B3
  generalize hB4 : lettersS = B4
  generalize hB5 : allT = B5
  cbv
  repeat' first
    | (refine fun (_ : Unit) => ?_; cbv)
    | (refine And.intro (fun h => ?_) (fun h => ?_) <;> cbv)
    | (refine And.intro ?_ ?_)
    | (refine Or.inl (fun (_ : Unit) => ?_); cbv)
  all_goals subst hP hB0 hB1 hB2 hB3 hB4 hB5
  all_goals try first
    | exact True.intro
    | with_reducible assumption
    | with_reducible exact byte_in
    | with_reducible exact hp.1
    | with_reducible exact hp.2
    | with_reducible exact hp.2.1
    | with_reducible exact hp.2.2
    | (simp [std] at * <;> lia)
    | rfl
  all_goals (have hb := bag_len hp.bag; have h0 := rack_len hp.rk0; have h1 := rack_len hp.rk1; have hr := hp.rk2; have hll := lettersS_len g.bd (bdB.fit hp.bd); have htl := tilesP_len (lettersS g.bd))
  · exact ⟨Int.le_refl 0, by show (0 : Int) < (g.racks.length : Int); omega⟩
  · exact in64 (by show _ ≤ (g.bag.length : Int) + ((g.racks.getD 0 []).length : Int) ∧ (g.bag.length : Int) + ((g.racks.getD 0 []).length : Int) ≤ _; omega)
  · exact ⟨by decide, by show (1 : Int) < (g.racks.length : Int); omega⟩
  · exact in64 (by
      show _ ≤ ((g.bag ++ g.racks.getD 0 []).length : Int) + ((g.racks.getD 1 []).length : Int) ∧ ((g.bag ++ g.racks.getD 0 []).length : Int) + ((g.racks.getD 1 []).length : Int) ≤ _
      rw [List.length_append]; omega)
  · exact bdB.fit hp.bd
  · exact ⟨cells_lett hp.bd, by show (lettersS g.bd).length ≤ _; omega⟩
  · exact in64 (by
      show _ ≤ (((g.bag ++ g.racks.getD 0 []) ++ g.racks.getD 1 []).length : Int) + ((tilesP (lettersS g.bd)).length : Int) ∧ (((g.bag ++ g.racks.getD 0 []) ++ g.racks.getD 1 []).length : Int) + ((tilesP (lettersS g.bd)).length : Int) ≤ _
      rw [List.length_append, List.length_append]; omega)
  · refine ⟨?_, ?_⟩
    · show (((g.bag ++ g.racks.getD 0 []) ++ g.racks.getD 1 []) ++ tilesP (lettersS g.bd)).all tileB = true
      rw [List.all_append, List.all_append, List.all_append, (bag_stp hp.bag).ti, (rack_stp hp.rk0).ti, (rack_stp hp.rk1).ti, show (tilesP (lettersS g.bd)).all tileB = true from pileL_tile' _]; rfl
    · show (((g.bag ++ g.racks.getD 0 []) ++ g.racks.getD 1 []) ++ tilesP (lettersS g.bd)).length ≤ _
      rw [List.length_append, List.length_append, List.length_append]; omega
theorem emp_is (s : List UInt8) : std.eqS s [] = s.isEmpty := by cases s <;> rfl
structure WtP (g : Gm) : Prop where
  rk2 : g.racks.length = 2
  ply : inR g.player 0 1 = true
def sp_i_Game_waits (p : Pr) : FSpec := fsp (a1 (aA aGm)) (fun g => WtP g) (fun g => .b (waitsB g))
theorem ok_i_Game_waits : FOk Tryz.prog 45 (sp_i_Game_waits std) := by
  refine FOk.go (c := cx std [] [] 0) (cx_ok .nil .nil) mixed Tryz.func45 rfl rfl rfl (by kernel_rfl) ?_
  rintro g hp
  refine ⟨rfl, ?_⟩
  generalize hP : std = p
  generalize hB0 : waitsB = B0
  generalize hB1 : inR = B1
  cbv
  repeat' first
    | (refine fun (_ : Unit) => ?_; cbv)
    | (refine And.intro (fun h => ?_) (fun h => ?_) <;> cbv)
    | (refine And.intro ?_ ?_)
    | (refine Or.inl (fun (_ : Unit) => ?_); cbv)
  all_goals subst hP hB0 hB1
  all_goals try first
    | exact True.intro
    | with_reducible assumption
    | with_reducible exact byte_in
    | with_reducible exact hp.1
    | with_reducible exact hp.2
    | with_reducible exact hp.2.1
    | with_reducible exact hp.2.2
    | (simp [std] at * <;> lia)
    | rfl
  all_goals (have h0 := in_bd hp.ply; have hr := hp.rk2)
  · exact in64 (by show _ ≤ 1 - g.player ∧ 1 - g.player ≤ _; omega)
  · exact ⟨by show 0 ≤ 1 - g.player; omega, by show 1 - g.player < (g.racks.length : Int); omega⟩
  · unfold waitsB
    rw [show g.bag.isEmpty = true by rw [← emp_is]; assumption]
    exact emp_is _
  · unfold waitsB
    rw [show g.bag.isEmpty = false by rw [← emp_is]; assumption]; rfl
structure PfQ (g : Gm) : Prop where
  ts : TsOk g.ts
  rk2 : g.racks.length = 2
  ply : inR g.player 0 1 = true
  rk0 : rackB (g.racks.getD 0 []) = true
  rk1 : rackB (g.racks.getD 1 []) = true
  bf : BdP g.bef
  wd : (g.last.play.word.length : Int) ≤ 1073741824
  dr : g.last.drawn.length ≤ 1099511627776
theorem le_not (m n : Int) : decide (m ≤ n) = !(std.ltI n m) := by
  show decide (m ≤ n) = !(decide (n < m))
  rw [Bool.eq_iff_iff]
  simp
theorem pfE (g : Gm) : playOkI g = (inR g.last.player 0 1 && (std.eqI g.last.player (std.sub 1 g.player) && (okI ⟨g.bd.size, g.bd.prem, g.last.before⟩ ⟨g.last.play.row, g.last.play.col, g.last.play.down, g.last.play.word⟩ && (
    std.and (std.eqI (madeB ⟨g.bd.size, g.bd.prem, g.last.before⟩ ⟨g.last.play.row, g.last.play.col, g.last.play.down, g.last.play.word⟩).size g.bd.size) (std.and (std.eqS (madeB ⟨g.bd.size, g.bd.prem, g.last.before⟩ ⟨g.last.play.row, g.last.play.col, g.last.play.down, g.last.play.word⟩).prem g.bd.prem) (std.eqS (madeB ⟨g.bd.size, g.bd.prem, g.last.before⟩ ⟨g.last.play.row, g.last.play.col, g.last.play.down, g.last.play.word⟩).cells g.bd.cells)) && (
    !(std.ltI 7 (std.len (nsI ⟨g.bd.size, g.bd.prem, g.last.before⟩ ⟨g.last.play.row, g.last.play.col, g.last.play.down, g.last.play.word⟩))) && (bagB g.last.drawn && (
    !(std.ltI (std.len (nsI ⟨g.bd.size, g.bd.prem, g.last.before⟩ ⟨g.last.play.row, g.last.play.col, g.last.play.down, g.last.play.word⟩)) (std.lenS g.last.drawn)) && (
    !(std.ltI 7 (std.add (std.sub (std.lenS (std.get [] g.racks g.last.player)) (std.lenS g.last.drawn)) (std.len (nsI ⟨g.bd.size, g.bd.prem, g.last.before⟩ ⟨g.last.play.row, g.last.play.col, g.last.play.down, g.last.play.word⟩)))) && (
    withoutB (std.get [] g.racks g.last.player) g.last.drawn && (std.eqI g.last.score (scoreI ⟨g.ts.letters, g.ts.values, g.ts.counts, g.ts.blanks⟩ ⟨g.bd.size, g.bd.prem, g.last.before⟩ ⟨g.last.play.row, g.last.play.col, g.last.play.down, g.last.play.word⟩) && (std.leI g.last.score 20000 && (inR g.last.zeros 0 5 && std.eqI g.zeros 0)))))))))))) := by
  have e1 : decide ((newL g.bef g.last.play).length ≤ 7) = !(std.ltI 7 (std.len (nsI g.bef g.last.play))) := by
    rw [← le_not]
    show _ = decide (((nsI g.bef g.last.play).length : Int) ≤ 7)
    rw [ns_len, Bool.eq_iff_iff, decide_eq_true_eq, decide_eq_true_eq]; omega
  have e2 : decide (g.last.drawn.length ≤ (newL g.bef g.last.play).length) = !(std.ltI (std.len (nsI g.bef g.last.play)) (std.lenS g.last.drawn)) := by
    rw [← le_not]
    show _ = decide ((g.last.drawn.length : Int) ≤ ((nsI g.bef g.last.play).length : Int))
    rw [ns_len, Bool.eq_iff_iff, decide_eq_true_eq, decide_eq_true_eq]; omega
  have e3 : decide (((g.rk g.last.player).length : Int) - g.last.drawn.length + (newL g.bef g.last.play).length ≤ 7) = !(std.ltI 7 (std.add (std.sub (std.lenS (std.get [] g.racks g.last.player)) (std.lenS g.last.drawn)) (std.len (nsI g.bef g.last.play)))) := by
    rw [← le_not]
    show _ = decide (((g.rk g.last.player).length : Int) - g.last.drawn.length + ((nsI g.bef g.last.play).length : Int) ≤ 7)
    rw [ns_len]
  unfold playOkI
  rw [e1, e2, e3]
  rfl
theorem VP.ok {b : Bd} {q : Pl} (h : okI b q = true) : VP b q := by
  unfold okI at h
  rw [Bool.and_eq_true] at h
  exact VP.of h.1 h.2
def sp_i_Game_playFits (p : Pr) : FSpec := fsp (a1 (aA aGm)) (fun g => PfQ g) (fun g => .b (playOkI g))
theorem ok_i_Game_playFits : FOk Tryz.prog 201 (sp_i_Game_playFits std) := by
  refine FOk.go (c := cx std [(94, sp_i_within std), (219, sp_i_ValidPlay std), (53, sp_i_made std), (96, sp_i_newSquares std), (109, sp_i_ValidBag std), (50, sp_i_without std), (47, sp_i_scorePlay std)] [] 0) (cx_ok (.cons ok_i_within (.cons ok_i_ValidPlay (.cons ok_i_made (.cons ok_i_newSquares (.cons ok_i_ValidBag (.cons ok_i_without (.cons ok_i_scorePlay .nil))))))) .nil) mixed Tryz.func201 rfl rfl rfl (by kernel_rfl) ?_
  rintro g hp
  refine ⟨rfl, ?_⟩
  unfold sp_i_within sp_i_ValidPlay sp_i_made sp_i_newSquares sp_i_ValidBag sp_i_without sp_i_scorePlay
  generalize hP : std = p
  generalize hB0 : playOkI = B0
  generalize hB1 : inR = B1
  generalize hB2 : okI = B2
  generalize hB3 : madeB = B3
  generalize hB4 : nsI = B4
  generalize hB5 : npI = B5
  generalize hB6 : bagB = B6
  generalize hB7 : withoutS = B7
  generalize hB8 : withoutB = B8
  generalize hB9 : scoreI = B9
  cbv
  repeat' first
    | (refine fun (_ : Unit) => ?_; cbv)
    | (refine And.intro (fun h => ?_) (fun h => ?_) <;> cbv)
    | (refine And.intro ?_ ?_)
    | (refine Or.inl (fun (_ : Unit) => ?_); cbv)
  all_goals subst hP hB0 hB1 hB2 hB3 hB4 hB5 hB6 hB7 hB8 hB9
  all_goals try first
    | exact True.intro
    | with_reducible assumption
    | with_reducible exact byte_in
    | with_reducible exact hp.1
    | with_reducible exact hp.2
    | with_reducible exact hp.2.1
    | with_reducible exact hp.2.2
    | (simp [std] at * <;> lia)
    | rfl
  all_goals (have h0 := in_bd hp.ply; have hr := hp.rk2)
  all_goals try (have hl1 := in_bd (show inR g.last.player 0 1 = true by assumption); have hrk := rk_valid hp.rk0 hp.rk1 (show inR g.last.player 0 1 = true by assumption); have hrl := rack_len hrk)
  all_goals try (have hvp : VP g.bef g.last.play := VP.ok (by assumption); have hnl := ns_len (b := g.bef) (q := g.last.play); have hn := newTo_length g.bef g.last.play g.last.play.word.length; have hn : (newL g.bef g.last.play).length ≤ g.last.play.word.length := hn; have hw := hvp.hi)
  all_goals try (have hbg := bag_len (show bagB g.last.drawn = true by assumption))
  all_goals first
    | exact hp.bf
    | exact hp.wd
    | exact hvp
    | exact ⟨hp.ts, hvp⟩
    | exact rack_stp hrk
    | exact bag_stp (show bagB g.last.drawn = true by assumption)
    | exact ltM_of hp.dr
    | exact ⟨hl1.1, by show g.last.player < (g.racks.length : Int); omega⟩
    | (rw [pfE]; simp only [*, Bool.not_false, Bool.not_true, Bool.true_and, Bool.false_and, Bool.and_false]; done)
    | exact in64 (by show _ ≤ 1 - g.player ∧ 1 - g.player ≤ _; omega)
    | exact in64 (by show _ ≤ ((g.rk g.last.player).length : Int) - (g.last.drawn.length : Int) ∧ ((g.rk g.last.player).length : Int) - (g.last.drawn.length : Int) ≤ _; omega)
    | exact in64 (by show _ ≤ ((g.rk g.last.player).length : Int) - (g.last.drawn.length : Int) + ((nsI g.bef g.last.play).length : Int) ∧ ((g.rk g.last.player).length : Int) - (g.last.drawn.length : Int) + ((nsI g.bef g.last.play).length : Int) ≤ _; omega)
    | skip
end Ax
end Go.Proofs.YtdojdfminchlaaaGreatDoor
/-
  Whether the last turn fits, valid games, codes of actions, of the impl package.
  Conditions: none.
-/
namespace Go.Proofs.YtdojdfminchlaaaGreatDoor
namespace Ax
set_option maxRecDepth 100000
set_option maxHeartbeats 2000000
def sp_i_Game_lastFits (p : Pr) : FSpec := fsp (a1 (aA aGm)) (fun g => PfQ g) (fun g => .b (lastOkI g))
theorem ok_i_Game_lastFits : FOk Tryz.prog 148 (sp_i_Game_lastFits std) := by
  refine FOk.go (c := cx std [(94, sp_i_within std), (201, sp_i_Game_playFits std)] [] 0) (cx_ok (.cons ok_i_within (.cons ok_i_Game_playFits .nil)) .nil) mixed Tryz.func148 rfl rfl rfl (by kernel_rfl) ?_
  rintro g hp
  refine ⟨rfl, ?_⟩
  unfold sp_i_within sp_i_Game_playFits
  generalize hP : std = p
  generalize hB0 : lastOkI = B0
  generalize hB1 : inR = B1
  generalize hB2 : playOkI = B2
  cbv
  repeat' first
    | (refine fun (_ : Unit) => ?_; cbv)
    | (refine And.intro (fun h => ?_) (fun h => ?_) <;> cbv)
    | (refine And.intro ?_ ?_)
    | (refine Or.inl (fun (_ : Unit) => ?_); cbv)
  all_goals subst hP hB0 hB1 hB2
  all_goals try first
    | exact True.intro
    | with_reducible assumption
    | with_reducible exact byte_in
    | with_reducible exact hp.1
    | with_reducible exact hp.2
    | with_reducible exact hp.2.1
    | with_reducible exact hp.2.2
    | (simp [std] at * <;> lia)
    | rfl
  · have k0 : g.last.kind = 0 := eqI_t (by assumption)
    unfold lastOkI
    rw [if_pos k0]; rfl
  · have k0 : ¬ g.last.kind = 0 := eqI_f (by assumption)
    have k2 : g.last.kind = 2 := eqI_t (by assumption)
    unfold lastOkI
    rw [if_neg k0, if_pos (Or.inl k2), show inR g.last.player 0 1 = true by assumption]; rfl
  · have k0 : ¬ g.last.kind = 0 := eqI_f (by assumption)
    have k2 : g.last.kind = 2 := eqI_t (by assumption)
    unfold lastOkI
    rw [if_neg k0, if_pos (Or.inl k2), show inR g.last.player 0 1 = false by assumption]; rfl
  · have k0 : ¬ g.last.kind = 0 := eqI_f (by assumption)
    have k2 : g.last.kind = 3 := eqI_t (by assumption)
    unfold lastOkI
    rw [if_neg k0, if_pos (Or.inr k2), show inR g.last.player 0 1 = true by assumption]; rfl
  · have k0 : ¬ g.last.kind = 0 := eqI_f (by assumption)
    have k2 : g.last.kind = 3 := eqI_t (by assumption)
    unfold lastOkI
    rw [if_neg k0, if_pos (Or.inr k2), show inR g.last.player 0 1 = false by assumption]; rfl
  all_goals have k0 : ¬ g.last.kind = 0 := eqI_f (by assumption)
  all_goals have k2 : ¬ g.last.kind = 2 := eqI_f (by assumption)
  all_goals have k3 : ¬ g.last.kind = 3 := eqI_f (by assumption)
  all_goals unfold lastOkI
  all_goals rw [if_neg k0, if_neg (by rintro (h | h); exact k2 h; exact k3 h)]
  · rw [if_pos (eqI_t (by assumption))]
  · rw [if_neg (eqI_f (by assumption))]
theorem gameI (g : Gm) : gameB g = (shapeB g && (twoB g && ((sideB g 0 && sideB g 1) && (tilesF g && (lastOkI g && (g.over || decide (g.zeros < 6))))))) := by
  unfold gameB
  cases h1 : shapeB g
  · rfl
  cases h2 : twoB g
  · rfl
  cases h3 : sideB g 0
  · rfl
  cases h4 : sideB g 1
  · rfl
  unfold shapeB at h1
  unfold twoB at h2
  unfold sideB at h3 h4
  simp only [Bool.and_eq_true] at h1 h2 h3 h4
  have e1 : tilesF g = (gameTiles g == allT g.ts) := by
    unfold tilesF
    rw [tiles_same h1.2.1 h1.2.2.2.2 h3.1 h4.1]
  rw [e1, lastOk_same h3.1 h4.1 h2.2.2.2.1]
theorem g_shape {g : Gm} (h : shapeB g = false) : gameB g = false := by rw [gameI, h]; rfl
theorem g_two {g : Gm} (h : twoB g = false) : gameB g = false := by rw [gameI, h]; simp
theorem g_side {g : Gm} {k : Int} (h0 : 0 ≤ k) (h1 : k < 2) (h : sideB g k.toNat = false) : gameB g = false := by
  have : k = 0 ∨ k = 1 := by omega
  rcases this with rfl | rfl
  · have h : sideB g 0 = false := h
    rw [gameI, h]; simp
  · have h : sideB g 1 = false := h
    rw [gameI, h]; simp
theorem g_end {g : Gm} (h1 : shapeB g = true) (h2 : twoB g = true) (h3 : sideB g 0 = true) (h4 : sideB g 1 = true) : gameB g = (tilesF g && (lastOkI g && (g.over || decide (g.zeros < 6)))) := by
  rw [gameI, h1, h2, h3, h4]; rfl
structure GmQ (g : Gm) : Prop where
  su : SuQ (gSu g)
  bd : BdP g.bd
  bag : g.bag.length ≤ 1099511627776
  rks : ∀ k : Int, (g.racks.getD k.toNat []).length ≤ 1099511627776
  wd : (g.last.play.word.length : Int) ≤ 1073741824
  dr : g.last.drawn.length ≤ 1099511627776
  bf : BdP g.bef
theorem tfp_of {g : Gm} (h1 : shapeB g = true) (h2 : twoB g = true) (h3 : sideB g 0 = true) (h4 : sideB g 1 = true) : TfP g := by
  unfold shapeB setupB at h1
  unfold twoB at h2
  unfold sideB at h3 h4
  simp only [Bool.and_eq_true, decide_eq_true_eq] at h1 h2 h3 h4
  obtain ⟨a1, a2, a3⟩ := tsB_all h1.1.1
  exact ⟨⟨a1, a2, a3⟩, h1.2.1, h1.2.2.2.2, h2.1, h3.1, h4.1⟩
theorem pfq_of {g : Gm} (hp : GmQ g) (h1 : shapeB g = true) (h2 : twoB g = true) (h3 : sideB g 0 = true) (h4 : sideB g 1 = true) : PfQ g := by
  unfold shapeB setupB at h1
  unfold twoB at h2
  unfold sideB at h3 h4
  simp only [Bool.and_eq_true, decide_eq_true_eq] at h1 h2 h3 h4
  exact ⟨tsB_ok h1.1.1, h2.1, h2.2.2.2.1, h3.1, h4.1, hp.bf, hp.wd, hp.dr⟩
def sp_i_ValidGame (p : Pr) : FSpec := fsp (a1 (aA aGm)) (fun g => GmQ g) (fun g => .b (gameB g))
theorem ok_i_ValidGame : FOk Tryz.prog 93 (sp_i_ValidGame std) := by
  refine FOk.go (c := cx std [(145, sp_i_ValidSetup std), (146, sp_i_ValidBoard std), (109, sp_i_ValidBag std), (94, sp_i_within std), (110, sp_i_ValidRack std), (147, sp_i_Game_tilesFit std), (148, sp_i_Game_lastFits std)] [] 0) (cx_ok (.cons ok_i_ValidSetup (.cons ok_i_ValidBoard (.cons ok_i_ValidBag (.cons ok_i_within (.cons ok_i_ValidRack (.cons ok_i_Game_tilesFit (.cons ok_i_Game_lastFits .nil))))))) .nil) mixed Tryz.func93 rfl rfl rfl (by kernel_rfl) ?_
  rintro g hp
  refine ⟨rfl, ?_⟩
  unfold sp_i_ValidSetup sp_i_ValidBoard sp_i_ValidBag sp_i_within sp_i_ValidRack sp_i_Game_tilesFit sp_i_Game_lastFits
  obtain ⟨H, hH⟩ : ∃ H : Hd (Int), H = ⟨fun k => 0 ≤ k ∧ k ≤ 2 ∧ (0 < k → sideB g 0 = true) ∧ (1 < k → sideB g 1 = true), fun k => (2 - k).toNat, (· < ·)⟩ := ⟨_, rfl⟩
  have hl : ∀ m n, H.lt m n → m < n := by subst hH; exact fun _ _ h => h
  generalize hP : std = p
  generalize hB0 : gameB = B0
  generalize hB1 : suB = B1
  generalize hB2 : bdB = B2
  generalize hB3 : bagB = B3
  generalize hB4 : inR = B4
  generalize hB5 : rackB = B5
  generalize hB6 : tilesF = B6
  generalize hB7 : lastOkI = B7
  cbv
  repeat' first
    | (refine fun (_ : Unit) => ?_; cbv)
    | (refine Or.inr ⟨66, [], [.s 65 (.i .i64)], [], [], H, rfl, hl, ?_, fun (k : Int) hk => ?_⟩ <;> cbv)
    | (refine And.intro (fun h => ?_) (fun h => ?_) <;> cbv)
    | (refine And.intro ?_ ?_)
  all_goals subst hP hB0 hB1 hB2 hB3 hB4 hB5 hB6 hB7 hH
  all_goals clear hl
  all_goals try dsimp only at hk
  all_goals try dsimp only
  all_goals try first
    | exact True.intro
    | with_reducible assumption
    | with_reducible exact byte_in
    | with_reducible exact hp.1
    | with_reducible exact hp.2
    | with_reducible exact hp.2.1
    | with_reducible exact hp.2.2
    | (simp [std] at * <;> lia)
    | rfl
  all_goals try (have hs : shapeB g = true := by rw [shapeE]; simp only [*, Bool.not_false, Bool.true_and, Bool.and_true])
  all_goals try (have hr2 : g.racks.length = 2 := by have := (len2 g.racks).symm.trans (show std.eqI (std.len g.racks) 2 = true by assumption); simpa using this)
  all_goals try (obtain ⟨q0, q1, q2, q3⟩ := hk)
  all_goals try (have hlt : k < 2 := by have h7 : k < (g.racks.length : Int) := lt_of (by assumption); omega)
  all_goals try (have hge : 2 ≤ k := by have h7 : (g.racks.length : Int) ≤ k := ge_of (by assumption); omega)
  all_goals try (have hsd0 := q2 (by omega); have hsd1 := q3 (by omega))
  all_goals try (have htw : twoB g = true := by rw [twoE]; simp only [*, Bool.not_false, Bool.true_and, Bool.and_true])
  all_goals first
    | exact hp.su
    | exact ltM_of hp.bag
    | exact ltM_of (hp.rks k)
    | (refine g_shape ?_; rw [shapeE]; simp only [*, Bool.not_false, Bool.true_and, Bool.false_and]; done)
    | (refine g_two ?_; rw [twoE]; simp only [*, Bool.not_false, Bool.true_and, Bool.false_and, Bool.and_false]; done)
    | exact g_side q0 hlt (side_n1 (by assumption))
    | exact g_side q0 hlt (side_n2 q0 (by assumption))
    | exact g_side q0 hlt (side_n3 q0 (by assumption))
    | exact side_suc q0 hlt q2 q3 (by assumption) (by assumption) (by assumption)
    | exact tfp_of hs htw hsd0 hsd1
    | exact pfq_of hp hs htw hsd0 hsd1
    | (rw [g_end hs htw hsd0 hsd1, show g.over = false by assumption, z_full (by assumption)]; simp; done)
    | (rw [g_end hs htw hsd0 hsd1]; show lastOkI g = _; rw [show tilesF g = true by assumption, show g.over = true by assumption]; simp; done)
    | (rw [g_end hs htw hsd0 hsd1, show tilesF g = true by assumption, z_less (by assumption) (by assumption)]; simp; done)
    | (rw [g_end hs htw hsd0 hsd1, show tilesF g = false by assumption]; rfl)
    | skip
end Ax
end Go.Proofs.YtdojdfminchlaaaGreatDoor
/-
  Codes of actions, draws, ends, copies, of the impl package.
  Conditions: none.
-/
namespace Go.Proofs.YtdojdfminchlaaaGreatDoor
namespace Ax
set_option maxRecDepth 100000
set_option maxHeartbeats 2000000
structure GmF (g : Gm) : Prop where
  s : g.scores.length = 2
  k : g.clocks.length = 2
  r : g.racks.length = 2
  ply : inR g.player 0 1 = true
  clk : ∀ k : Int, 0 ≤ k → k < 2 → inR (g.clk k) (-36000) 36000 = true
theorem gm_facts {g : Gm} (h : gameB g = true) : GmF g := by
  unfold gameB twoB sideB at h
  simp only [Bool.and_eq_true, decide_eq_true_eq] at h
  refine ⟨h.2.1.2.1, h.2.1.2.2.1, h.2.1.1, h.2.1.2.2.2.1, fun k h0 h1 => ?_⟩
  have : k = 0 ∨ k = 1 := by omega
  rcases this with rfl | rfl
  · exact h.2.2.1.1.2.2
  · exact h.2.2.1.2.2.2
theorem act_over {g : Gm} {n : Int} (h : gameB g = true) (ho : g.over = true) : actC g n = 10 := by
  unfold actC; rw [if_pos h, if_pos ho]
theorem act_2a {g : Gm} {n : Int} (h : gameB g = true) (ho : g.over = false) (hn : inR n 0 36000 = false) : actC g n = 2 := by
  unfold actC; rw [if_pos h, if_neg (by rw [ho]; simp), hn, if_neg (by simp)]
theorem act_2b {g : Gm} {n : Int} (h : gameB g = true) (ho : g.over = false) (hn : std.ltI (g.clk g.player - n) (-36000) = true) : actC g n = 2 := by
  have h1 := lt_of hn
  unfold actC; rw [if_pos h, if_neg (by rw [ho]; simp), decide_eq_false (by omega), Bool.and_false, if_neg (by simp)]
theorem act_go {g : Gm} {n : Int} (h : gameB g = true) (ho : g.over = false) (hi : inR n 0 36000 = true) (hn : std.ltI (g.clk g.player - n) (-36000) = false) : actC g n = if inR (g.sc 0) (-50000) 50000 && inR (g.sc 1) (-50000) 50000 then 0 else 5 := by
  have h1 := ge_of hn
  unfold actC; rw [if_pos h, if_neg (by rw [ho]; simp), hi, decide_eq_true (by omega)]; rfl
theorem act_k {a b : Bool} {k : Int} (h0 : 0 ≤ k) (h1 : k < 2) (ha : k = 0 → a = false) (hb : k = 1 → b = false) : (if (a && b) = true then (0 : Int) else 5) = 5 := by
  have : k = 0 ∨ k = 1 := by omega
  rcases this with h | h
  · rw [ha h]; rfl
  · rw [hb h, Bool.and_false]; rfl
def sp_i_actionCode (p : Pr) : FSpec := fsp (ac (aA aGm) (a1 aI)) (fun (g, n) => GmQ g) (fun (g, n) => .i .i64 (actC g n))
theorem ok_i_actionCode : FOk Tryz.prog 44 (sp_i_actionCode std) := by
  refine FOk.go (c := cx std [(93, sp_i_ValidGame std), (94, sp_i_within std)] [] 0) (cx_ok (.cons ok_i_ValidGame (.cons ok_i_within .nil)) .nil) mixed Tryz.func44 rfl rfl rfl (by kernel_rfl) ?_
  rintro ⟨g, n⟩ hp
  dsimp only at hp
  refine ⟨rfl, ?_⟩
  unfold sp_i_ValidGame sp_i_within
  obtain ⟨H, hH⟩ : ∃ H : Hd (Int), H = ⟨fun k => 0 ≤ k ∧ k ≤ 2 ∧ (0 < k → inR (g.scores.getD 0 0) (-50000) 50000 = true) ∧ (1 < k → inR (g.scores.getD 1 0) (-50000) 50000 = true), fun k => (2 - k).toNat, (· < ·)⟩ := ⟨_, rfl⟩
  have hl : ∀ m n, H.lt m n → m < n := by subst hH; exact fun _ _ h => h
  generalize hP : std = p
  generalize hB0 : actC = B0
  generalize hB1 : gameB = B1
  generalize hB2 : inR = B2
  cbv
  repeat' first
    | (refine fun (_ : Unit) => ?_; cbv)
    | (refine Or.inr ⟨33, [], [.s 32 (.i .i64)], [], [], H, rfl, hl, ?_, fun (k : Int) hk => ?_⟩ <;> cbv)
    | (refine And.intro (fun h => ?_) (fun h => ?_) <;> cbv)
    | (refine And.intro ?_ ?_)
  all_goals subst hP hB0 hB1 hB2 hH
  all_goals clear hl
  all_goals try dsimp only at hk
  all_goals try dsimp only
  all_goals try first
    | exact True.intro
    | with_reducible assumption
    | with_reducible exact byte_in
    | with_reducible exact hp.1
    | with_reducible exact hp.2
    | with_reducible exact hp.2.1
    | with_reducible exact hp.2.2
    | (simp [std] at * <;> lia)
    | rfl
  all_goals try (have hf := gm_facts (show gameB g = true by assumption))
  all_goals try (have hpl := in_bd hf.ply)
  all_goals try (have hck := in_bd (hf.clk g.player hpl.1 (by omega)))
  all_goals try (have hn := in_bd (show inR n 0 36000 = true by assumption))
  all_goals try (obtain ⟨q0, q1, q2, q3⟩ := hk)
  all_goals try (have hss := hf.s)
  all_goals try (have hlt : k < 2 := by have h7 : k < (g.scores.length : Int) := lt_of (by assumption); omega)
  all_goals try (have hge : 2 ≤ k := by have h7 : (g.scores.length : Int) ≤ k := ge_of (by assumption); omega)
  · unfold actC; rw [if_neg (by rw [show gameB g = false by assumption]; simp)]
  · rw [act_over (by assumption) (by assumption)]
  · exact ⟨hpl.1, by show g.player < (g.clocks.length : Int); have := hf.k; omega⟩
  · exact in64 (by show _ ≤ g.clk g.player - n ∧ g.clk g.player - n ≤ _; omega)
  · rw [act_2b (by assumption) (by assumption) (by assumption)]
  · have hb : inR (g.sc k) (-50000) 50000 = false := by assumption
    rw [act_go (by assumption) (by assumption) (by assumption) (by assumption), act_k q0 hlt (fun e => by rw [← e]; exact hb) (fun e => by rw [← e]; exact hb)]
  · have hb : inR (g.sc k) (-50000) 50000 = true := by assumption
    have : k = 0 ∨ k = 1 := by omega
    rcases this with rfl | rfl
    · exact ⟨by decide, by decide, fun _ => hb, fun h => absurd h (by decide)⟩
    · exact ⟨by decide, by decide, fun _ => q2 (by decide), fun _ => hb⟩
  · show (2 - (k + 1)).toNat < (2 - k).toNat
    omega
  · have a0 : inR (g.sc 0) (-50000) 50000 = true := q2 (by omega)
    have a1 : inR (g.sc 1) (-50000) 50000 = true := q3 (by omega)
    rw [act_go (by assumption) (by assumption) (by assumption) (by assumption), a0, a1]; rfl
  · rw [act_2a (by assumption) (by assumption) (by assumption)]
def tdI (a b : List UInt8) : Int := min (7 - (b.length : Int)) (a.length : Int)
def sp_i_penalty (p : Pr) : FSpec := fsp (a1 aI) (fun n => p.leP (-36000) n) (fun n => .i .i64 (pen n))
theorem ok_i_penalty : FOk Tryz.prog 176 (sp_i_penalty std) := by
  refine FOk.go (c := cx std [] [] 0) (cx_ok .nil .nil) mixed Tryz.func176 rfl rfl rfl (by kernel_rfl) ?_
  rintro n hp
  refine ⟨rfl, ?_⟩
  generalize hP : std = p
  generalize hB0 : pen = B0
  cbv
  repeat' first
    | (refine fun (_ : Unit) => ?_; cbv)
    | (refine And.intro (fun h => ?_) (fun h => ?_) <;> cbv)
    | (refine And.intro ?_ ?_)
    | (refine Or.inl (fun (_ : Unit) => ?_); cbv)
  all_goals subst hP hB0
  all_goals try first
    | exact True.intro
    | with_reducible assumption
    | with_reducible exact byte_in
    | with_reducible exact hp.1
    | with_reducible exact hp.2
    | with_reducible exact hp.2.1
    | with_reducible exact hp.2.2
    | (simp [std] at * <;> lia)
    | rfl
  · simp [std] at h; simp [pen, h]
  · simp [std] at h
    have h1 : ¬ 0 ≤ n := by omega
    have h2 : (59 - n).tdiv 60 = (59 - n) / 60 := Int.tdiv_eq_ediv_of_nonneg (by omega)
    have h3 : (0 - n + 59) = 59 - n := by omega
    simp [std, pen, h1]
    first | (rw [← h2]; congr 2; omega) | (rw [show -n + 59 = 59 - n by omega, h2]) | (rw [h3, h2])
def sp_i_Game_finalChange_o (p : Pr) : FSpec := fsp (a1 (aA aGm)) (fun g => EndP g) (fun g => .osl 0) (fun g => [(0, .own [.i .i64] (chgs g) 2)])
theorem ok_i_Game_finalChange_o : FOk Tryz.prog 112 (sp_i_Game_finalChange_o std) := by
  refine FOk.go (c := cx std [(175, sp_i_lettersValue std), (176, sp_i_penalty std)] [] 0) (cx_ok (.cons ok_i_lettersValue (.cons ok_i_penalty .nil)) .nil) mixed Tryz.func112 rfl rfl rfl (by kernel_rfl) ?_
  rintro g hp
  refine ⟨rfl, ?_⟩
  unfold sp_i_lettersValue sp_i_penalty
  obtain ⟨H, hH⟩ : ∃ H : Hd (Int × List Int), H = ⟨fun (k, L) => 0 ≤ k ∧ k ≤ 2 ∧ L = (chgs g).take k.toNat, fun (k, L) => (2 - k).toNat, (· < ·)⟩ := ⟨_, rfl⟩
  have hl : ∀ m n, H.lt m n → m < n := by subst hH; exact fun _ _ h => h
  generalize hP : std = p
  generalize hB0 : chgs = B0
  generalize hB1 : sumT = B1
  generalize hB2 : pen = B2
  cbv
  repeat' first
    | (refine fun (_ : Unit) => ?_; cbv)
    | (refine Or.inr ⟨12, [], [.s 11 (.i .i64), .o 1 [.i .i64]], [.s 3], [], H, rfl, hl, ?_, fun ((k, L) : Int × List Int) hk => ?_⟩ <;> cbv)
    | (refine And.intro (fun h => ?_) (fun h => ?_) <;> cbv)
    | (refine And.intro ?_ ?_)
  all_goals subst hP hB0 hB1 hB2 hH
  all_goals clear hl
  all_goals try dsimp only at hk
  all_goals try dsimp only
  all_goals try first
    | exact True.intro
    | with_reducible assumption
    | with_reducible exact byte_in
    | with_reducible exact hp.1
    | with_reducible exact hp.2
    | with_reducible exact hp.2.1
    | with_reducible exact hp.2.2
    | (simp [std] at * <;> lia)
    | rfl
  all_goals obtain ⟨q0, q1, rfl⟩ := hk
  all_goals have a1 := e_sum hp k
  all_goals have a2 := e_pen hp k
  all_goals have a3 := e_sum hp (1 - k)
  all_goals have a4 := hp.rk
  all_goals have a5 := hp.ck
  all_goals have a6 := hp.len k
  all_goals have a7 := hp.len (1 - k)
  all_goals have a8 := hp.clk k
  all_goals try (have h1 : k < 2 := by have h7 : k < (g.racks.length : Int) := lt_of (by assumption); omega)
  · exact ltM_of (n := (g.rk k).length) (by omega)
  · exact in64 (by show _ ≤ 0 - sumT g.ts (g.rk k) ∧ 0 - sumT g.ts (g.rk k) ≤ _; omega)
  · exact ⟨q0, by show k < (g.clocks.length : Int); omega⟩
  · exact a8
  · exact in64 (by show _ ≤ 0 - sumT g.ts (g.rk k) - pen (g.clk k) ∧ 0 - sumT g.ts (g.rk k) - pen (g.clk k) ≤ _; omega)
  · exact ⟨by show 0 ≤ 1 - k; omega, by show 1 - k < (g.racks.length : Int); omega⟩
  · exact ltM_of (n := (g.rk (1 - k)).length) (by omega)
  · exact in64 (by show _ ≤ 0 - sumT g.ts (g.rk k) - pen (g.clk k) + sumT g.ts (g.rk (1 - k)) ∧ 0 - sumT g.ts (g.rk k) - pen (g.clk k) + sumT g.ts (g.rk (1 - k)) ≤ _; omega)
  · show (((chgs g).take k.toNat).length : Int) + 1 ≤ _
    rw [List.length_take]; omega
  · refine ⟨by show 0 ≤ k + 1; omega, by show k + 1 ≤ 2; omega, ?_⟩
    show (chgs g).take k.toNat ++ [0 - sumT g.ts (g.rk k) - pen (g.clk k) + sumT g.ts (g.rk (1 - k))] = (chgs g).take (k + 1).toNat
    rw [e_yes (k := k) (by assumption), chgs_step q0 h1]
  · show (2 - (k + 1)).toNat < (2 - k).toNat
    omega
  · show (((chgs g).take k.toNat).length : Int) + 1 ≤ _
    rw [List.length_take]; omega
  · refine ⟨by show 0 ≤ k + 1; omega, by show k + 1 ≤ 2; omega, ?_⟩
    show (chgs g).take k.toNat ++ [0 - sumT g.ts (g.rk k) - pen (g.clk k)] = (chgs g).take (k + 1).toNat
    rw [e_no (k := k) (by assumption), chgs_step q0 h1]
  · show (2 - (k + 1)).toNat < (2 - k).toNat
    omega
  · have h7 : (g.racks.length : Int) ≤ k := ge_of (by assumption)
    rw [tk_all (show ((chgs g).length : Int) ≤ k by show (2 : Int) ≤ k; omega)]
def frR (a b : List UInt8) : List UInt8 := if bagB a && rackB b then pileL (countsL (b ++ a.take (tdI a b).toNat)) else []
def frB (a b : List UInt8) : List UInt8 := if bagB a && rackB b then a.drop (tdI a b).toNat else []
structure TcP (t : TS) : Prop where
  v : (t.values.length : Int) ≤ 1073741824
  c : (t.counts.length : Int) ≤ 1073741824
def sp_i_copyTiles (p : Pr) : FSpec := fsp (a1 (aA aTs)) (fun t => TcP t) (fun t => .agg (tsK t (.osl 0) (.osl 1))) (fun t => [(0, .own [.i .i64] t.values 2), (1, .own [.i .i64] t.counts 2)])
theorem ok_i_copyTiles : FOk Tryz.prog 165 (sp_i_copyTiles std) := by
  refine FOk.go (c := cx std [(103, sp_cloneN std)] [] 0) (cx_ok (.cons ok_cloneN .nil) .nil) mixed Tryz.func165 rfl rfl rfl (by kernel_rfl) ?_
  rintro t hp
  refine ⟨rfl, ?_⟩
  unfold sp_cloneN
  generalize hP : std = p
  cbv
  repeat' first
    | (refine fun (_ : Unit) => ?_; cbv)
    | (refine And.intro (fun h => ?_) (fun h => ?_) <;> cbv)
    | (refine And.intro ?_ ?_)
    | (refine Or.inl (fun (_ : Unit) => ?_); cbv)
  all_goals subst hP
  all_goals try first
    | exact True.intro
    | with_reducible assumption
    | with_reducible exact byte_in
    | with_reducible exact hp.1
    | with_reducible exact hp.2
    | with_reducible exact hp.2.1
    | with_reducible exact hp.2.2
    | (simp [std] at * <;> lia)
    | rfl
  · exact hp.v
  · exact hp.c
def sp_i_copyLexicon (p : Pr) : FSpec := fsp (a1 (aA aLex)) (fun ws => p.leP (p.len ws) 1073741824) (fun ws => .agg [.osl 0]) (fun ws => [(0, .own [.s] ws 9)])
theorem ok_i_copyLexicon : FOk Tryz.prog 166 (sp_i_copyLexicon std) := by
  refine FOk.go (c := cx std [(102, sp_cloneW std)] [] 0) (cx_ok (.cons ok_cloneW .nil) .nil) mixed Tryz.func166 rfl rfl rfl (by kernel_rfl) ?_
  rintro ws hp
  refine ⟨rfl, ?_⟩
  unfold sp_cloneW
  generalize hP : std = p
  cbv
  repeat' first
    | (refine fun (_ : Unit) => ?_; cbv)
    | (refine And.intro (fun h => ?_) (fun h => ?_) <;> cbv)
    | (refine And.intro ?_ ?_)
    | (refine Or.inl (fun (_ : Unit) => ?_); cbv)
  all_goals subst hP
  all_goals try first
    | exact True.intro
    | with_reducible assumption
    | with_reducible exact byte_in
    | with_reducible exact hp.1
    | with_reducible exact hp.2
    | with_reducible exact hp.2.1
    | with_reducible exact hp.2.2
    | (simp [std] at * <;> lia)
    | rfl
structure SuC (u : Su) : Prop where
  ts : TcP u.ts
  l : (u.lex.length : Int) ≤ 1073741824
def sp_i_copySetup (p : Pr) : FSpec := fsp (a1 (aA aSu)) (fun u => SuC u) (fun u => .agg (suK u (.osl 0) (.osl 1) (.osl 2))) (fun u => [(0, .own [.i .i64] u.ts.values 2), (1, .own [.i .i64] u.ts.counts 2), (2, .own [.s] u.lex 9)])
theorem ok_i_copySetup : FOk Tryz.prog 101 (sp_i_copySetup std) := by
  refine FOk.go (c := cx std [(165, sp_i_copyTiles std), (166, sp_i_copyLexicon std)] [] 0) (cx_ok (.cons ok_i_copyTiles (.cons ok_i_copyLexicon .nil)) .nil) mixed Tryz.func101 rfl rfl rfl (by kernel_rfl) ?_
  rintro u hp
  refine ⟨rfl, ?_⟩
  unfold sp_i_copyTiles sp_i_copyLexicon
  generalize hP : std = p
  cbv
  repeat' first
    | (refine fun (_ : Unit) => ?_; cbv)
    | (refine And.intro (fun h => ?_) (fun h => ?_) <;> cbv)
    | (refine And.intro ?_ ?_)
    | (refine Or.inl (fun (_ : Unit) => ?_); cbv)
  all_goals subst hP
  all_goals try first
    | exact True.intro
    | with_reducible assumption
    | with_reducible exact byte_in
    | with_reducible exact hp.1
    | with_reducible exact hp.2
    | with_reducible exact hp.2.1
    | with_reducible exact hp.2.2
    | (simp [std] at * <;> lia)
    | rfl
  · exact hp.l
structure GcP (g : Gm) : Prop where
  su : SuC (gSu g)
  r : (g.racks.length : Int) ≤ 1073741824
  s : (g.scores.length : Int) ≤ 1073741824
  k : (g.clocks.length : Int) ≤ 1073741824
def sp_i_copyGame (p : Pr) : FSpec := fsp (a1 (aA aGm)) (fun g => GcP g) (fun g => .ptr 0 0) (fun g => gmH g)
theorem ok_i_copyGame : FOk Tryz.prog 48 (sp_i_copyGame std) := by
  refine FOk.go (c := cx std [(101, sp_i_copySetup std), (103, sp_cloneN std), (102, sp_cloneW std)] [] 0) (cx_ok (.cons ok_i_copySetup (.cons ok_cloneN (.cons ok_cloneW .nil))) .nil) mixed Tryz.func48 rfl rfl rfl (by kernel_rfl) ?_
  rintro g hp
  refine ⟨rfl, ?_⟩
  unfold sp_i_copySetup sp_cloneN sp_cloneW
  generalize hP : std = p
  cbv
  repeat' first
    | (refine fun (_ : Unit) => ?_; cbv)
    | (refine And.intro (fun h => ?_) (fun h => ?_) <;> cbv)
    | (refine And.intro ?_ ?_)
    | (refine Or.inl (fun (_ : Unit) => ?_); cbv)
  all_goals subst hP
  all_goals try first
    | exact True.intro
    | with_reducible assumption
    | with_reducible exact byte_in
    | with_reducible exact hp.1
    | with_reducible exact hp.2
    | with_reducible exact hp.2.1
    | with_reducible exact hp.2.2
    | (simp [std] at * <;> lia)
    | rfl
  all_goals first | exact hp.su | exact hp.r | exact hp.s | exact hp.k | skip
end Ax
end Go.Proofs.YtdojdfminchlaaaGreatDoor
/-
  How a game ends, of the impl package.
  Conditions: none.
-/
namespace Go.Proofs.YtdojdfminchlaaaGreatDoor
namespace Ax
set_option maxRecDepth 100000
set_option maxHeartbeats 2000000
def setS (g : Gm) (b : Bool) : List Int := if b then setSc g else g.scores
def ovB (g : Gm) (b : Bool) : Bool := g.over || b
def setT (g : Gm) (k : Int) : List Int := [if 0 < k then g.sc 0 + chg g 0 else g.sc 0, if 1 < k then g.sc 1 + chg g 1 else g.sc 1]
structure SetQ (g : Gm) (b : Bool) : Prop where
  s : b = true → SetP g
theorem two_list {L : List Int} (h : L.length = 2) : L = [L.getD 0 0, L.getD 1 0] := by
  match L, h with
  | [a, b], _ => rfl
theorem setT_0 {g : Gm} (h : g.scores.length = 2) : g.scores = setT g 0 := two_list h
theorem setT_2 (g : Gm) {k : Int} (h : 2 ≤ k) : setT g k = setSc g := by
  unfold setT setSc
  rw [if_pos (by omega), if_pos (by omega)]
theorem setT_s (g : Gm) {k : Int} (h0 : 0 ≤ k) (h1 : k < 2) : (setT g k).set k.toNat ((setT g k).getD k.toNat 0 + (chgs g).getD k.toNat 0) = setT g (k + 1) := by
  have : k = 0 ∨ k = 1 := by omega
  rcases this with rfl | rfl <;> simp [setT, chgs]
theorem setT_n {g : Gm} (h : SetP g) {k : Int} (h0 : 0 ≤ k) (h1 : k < 2) : -9223372036854775808 ≤ (setT g k).getD k.toNat 0 + (chgs g).getD k.toNat 0 ∧ (setT g k).getD k.toNat 0 + (chgs g).getD k.toNat 0 ≤ 9223372036854775807 := by
  have : k = 0 ∨ k = 1 := by omega
  have a0 := set_num h 0
  have a1 := set_num h 1
  rcases this with rfl | rfl
  · simpa [setT, chgs] using a0
  · simpa [setT, chgs] using a1
def sp_i_xGame_settle (p : Pr) : MSpec := msp (mG (a1 aB)) (fun (g, b) => SetQ g b) (fun (g, b) => .tup []) (fun (g, b) => gmH { g with scores := setS g b, over := ovB g b })
theorem ok_i_xGame_settle : MOk Tryz.prog 55 (sp_i_xGame_settle std) := by
  refine MOk.go (c := cx std [(112, sp_i_Game_finalChange_o std)] [] 7) (cx_ok (.cons ok_i_Game_finalChange_o .nil) .nil) mixed Tryz.func55 rfl rfl (by kernel_rfl) ?_
  rintro ⟨g, b⟩ hp
  dsimp only at hp
  refine ⟨rfl, ?_⟩
  unfold sp_i_Game_finalChange_o
  obtain ⟨H, hH⟩ : ∃ H : Hd (Int × List Int), H = ⟨fun (k, L) => 0 ≤ k ∧ k ≤ 2 ∧ L = setT g k, fun (k, L) => (2 - k).toNat, (· < ·)⟩ := ⟨_, rfl⟩
  have hl : ∀ m n, H.lt m n → m < n := by subst hH; exact fun _ _ h => h
  generalize hP : std = p
  generalize hB0 : chgs = B0
  generalize hB1 : setS = B1
  generalize hB2 : setT = B2
  generalize hB3 : ovB = B3
  cbv
  repeat' first
    | (refine fun (_ : Unit) => ?_; cbv)
    | (refine Or.inr ⟨14, [], [.s 13 (.i .i64), .o 5 [.i .i64]], [], [], H, rfl, hl, ?_, fun ((k, L) : Int × List Int) hk => ?_⟩ <;> cbv)
    | (refine And.intro (fun h => ?_) (fun h => ?_) <;> cbv)
    | (refine And.intro ?_ ?_)
  all_goals subst hP hB0 hB1 hB2 hB3 hH
  all_goals clear hl
  all_goals try dsimp only at hk
  all_goals try dsimp only
  all_goals try first
    | exact True.intro
    | with_reducible assumption
    | with_reducible exact byte_in
    | with_reducible exact hp.1
    | with_reducible exact hp.2
    | with_reducible exact hp.2.1
    | with_reducible exact hp.2.2
    | (simp [std] at * <;> lia)
    | rfl
  · unfold ovB; rw [show b = false by assumption, Bool.or_false]
  · unfold setS; rw [show b = false by assumption]; rfl
  all_goals (have hs := hp.s (by assumption))
  · exact hs.en
  · exact ⟨Int.le_refl 0, by decide, setT_0 hs.len⟩
  all_goals obtain ⟨q0, q1, rfl⟩ := hk
  all_goals try (have hlt : k < 2 := lt_of (by assumption))
  · exact ⟨q0, hlt⟩
  · exact ⟨q0, hlt⟩
  · exact in64 (setT_n hs q0 hlt)
  · exact ⟨q0, hlt⟩
  · exact ⟨q0, hlt⟩
  · exact ⟨by show 0 ≤ k + 1; omega, by show k + 1 ≤ 2; omega, setT_s g q0 hlt⟩
  · show (2 - (k + 1)).toNat < (2 - k).toNat
    omega
  · unfold ovB; rw [show b = true by assumption, Bool.or_true]
  · have hge : (2 : Int) ≤ k := ge_of (by assumption)
    unfold setS; rw [show b = true by assumption, setT_2 g hge]; rfl
end Ax
end Go.Proofs.YtdojdfminchlaaaGreatDoor
/-
  The words of a play, whether it touches, its code: both packages' are the same.
  Conditions: none.
-/
namespace Go.Proofs.YtdojdfminchlaaaGreatDoor
namespace Ax
set_option maxRecDepth 100000
set_option maxHeartbeats 2000000
section
variable {b : Bd} {q : Pl} {i : Nat}
theorem words_same (hb : bdB b = true) (hon : OnQ b q) (hw : lettB q.word = true) : wordsL b q = wordsI b q := by
  unfold wordsL wordsI formedL crossW crossP sqL
  rw [fresh_new hb hon, flatP_word, List.map_cons]
  congr 1
  have hlt : ∀ x ∈ newL b q, x < q.word.length := fun x hx => List.mem_range.1 (List.mem_filter.1 hx).1
  generalize newL b q = N at hlt
  unfold keepL
  induction N with
  | nil => rfl
  | cons x N ih =>
    have ih := ih fun y hy => hlt y (List.mem_cons_of_mem _ hy)
    have hx := cross_seq hb hon (hlt x (List.mem_cons_self ..)) hw
    have hlen : (crossAt (flatB b q) (flatP q) x).length = (seqL (madeB b q) (!q.down) (q.sr x) (q.sc x)).length := by rw [hx]; simp [sqW]
    simp only [List.map_cons, List.filter_cons, hlen]
    by_cases h2 : 2 ≤ (seqL (madeB b q) (!q.down) (q.sr x) (q.sc x)).length
    · rw [if_pos (by simp; omega), if_pos (by simpa using h2), List.map_cons, List.map_cons, ih, hx]
    · rw [if_neg (by simp; omega), if_neg (by simpa using h2), ih]
end
end Ax
end Go.Proofs.YtdojdfminchlaaaGreatDoor
/-
  Valid games, codes of actions, turns with a play, of the spec package.
  Conditions: none.
-/
namespace Go.Proofs.YtdojdfminchlaaaGreatDoor
namespace Ax
set_option maxRecDepth 100000
set_option maxHeartbeats 2000000
def sp_s_l18LastOk (p : Pr) : FSpec := fsp (a1 (aP aGm)) (fun g => PkP g) (fun g => .b (lastOk g))
theorem ok_s_l18LastOk : FOk Tryz.prog 129 (sp_s_l18LastOk std) := by
  refine FOk.go (c := cx std [(186, sp_s_l18PlayOk std), (78, sp_s_l00In std)] [] 0) (cx_ok (.cons ok_s_l18PlayOk (.cons ok_s_l00In .nil)) .nil) mixed Tryz.func129 rfl rfl rfl (by kernel_rfl) ?_
  rintro g hp
  refine ⟨rfl, ?_⟩
  unfold sp_s_l18PlayOk sp_s_l00In
  generalize hP : std = p
  generalize hB0 : lastOk = B0
  generalize hB1 : playOk = B1
  generalize hB2 : inR = B2
  cbv
  repeat' first
    | (refine fun (_ : Unit) => ?_; cbv)
    | (refine And.intro (fun h => ?_) (fun h => ?_) <;> cbv)
    | (refine And.intro ?_ ?_)
    | (refine Or.inl (fun (_ : Unit) => ?_); cbv)
  all_goals subst hP hB0 hB1 hB2
  all_goals try first
    | exact True.intro
    | with_reducible assumption
    | with_reducible exact byte_in
    | with_reducible exact hp.1
    | with_reducible exact hp.2
    | with_reducible exact hp.2.1
    | with_reducible exact hp.2.2
    | (simp [std] at * <;> lia)
    | rfl
  all_goals try (have hb : eqLa g.last (idleL g.last.kind g.last.player) = true := (by assumption))
  all_goals try (have hn : eqLa g.last (idleL g.last.kind g.last.player) = false := (by assumption))
  · have k0 : g.last.kind = 0 := eqI_t (by assumption)
    unfold lastOk
    rw [k0] at hb
    rw [if_pos k0, hb]; rfl
  · have k0 : g.last.kind = 0 := eqI_t (by assumption)
    unfold lastOk
    rw [k0] at hn
    rw [if_pos k0, hn]; rfl
  · have k0 : ¬ g.last.kind = 0 := eqI_f (by assumption)
    have k2 : g.last.kind = 2 := eqI_t (by assumption)
    unfold lastOk
    rw [if_neg k0, if_pos (Or.inl k2), hb]; rfl
  · have k0 : ¬ g.last.kind = 0 := eqI_f (by assumption)
    have k2 : g.last.kind = 2 := eqI_t (by assumption)
    unfold lastOk
    rw [if_neg k0, if_pos (Or.inl k2), hn]; rfl
  · have k0 : ¬ g.last.kind = 0 := eqI_f (by assumption)
    have k2 : g.last.kind = 3 := eqI_t (by assumption)
    unfold lastOk
    rw [if_neg k0, if_pos (Or.inr k2), hb]; rfl
  · have k0 : ¬ g.last.kind = 0 := eqI_f (by assumption)
    have k2 : g.last.kind = 3 := eqI_t (by assumption)
    unfold lastOk
    rw [if_neg k0, if_pos (Or.inr k2), hn]; rfl
  all_goals have k0 : ¬ g.last.kind = 0 := eqI_f (by assumption)
  all_goals have k2 : ¬ g.last.kind = 2 := eqI_f (by assumption)
  all_goals have k3 : ¬ g.last.kind = 3 := eqI_f (by assumption)
  all_goals unfold lastOk
  all_goals rw [if_neg k0, if_neg (by rintro (h | h); exact k2 h; exact k3 h)]
  · rw [if_pos (eqI_t (by assumption))]
  · rw [if_neg (eqI_f (by assumption))]
/-- What a machine holds of a game. -/
structure GmL (g : Gm) : Prop where
  su : SuL (gSu g)
  bd : BdP g.bd
  bag : g.bag.length ≤ 1099511627776
  rk : ∀ k : Int, (g.rk k).length ≤ 1099511627776
  bf : BdP g.bef
  wd : g.last.play.word.length ≤ 1099511627776
  dr : g.last.drawn.length ≤ 1099511627776
theorem s_shape {g : Gm} (h : shapeB g = false) : gameB g = false := by unfold gameB; rw [h]; rfl
theorem s_two {g : Gm} (h : twoB g = false) : gameB g = false := by unfold gameB; rw [h]; simp
theorem s_side {g : Gm} {k : Int} (h0 : 0 ≤ k) (h1 : k < 2) (h : sideB g k.toNat = false) : gameB g = false := by
  have : k = 0 ∨ k = 1 := by omega
  rcases this with rfl | rfl
  · have h : sideB g 0 = false := h
    unfold gameB; rw [h]; simp
  · have h : sideB g 1 = false := h
    unfold gameB; rw [h]; simp
theorem s_end {g : Gm} (h1 : shapeB g = true) (h2 : twoB g = true) (h3 : sideB g 0 = true) (h4 : sideB g 1 = true) : gameB g = (gameTiles g == allT g.ts && (lastOk g && (g.over || decide (g.zeros < 6)))) := by
  unfold gameB
  rw [h1, h2, h3, h4]; rfl
structure GmS (g : Gm) : Prop where
  fit : g.bd.Fit
  ts : tsB g.ts = true
  rk : ∀ k : Int, (g.rk k).length ≤ 7
  r2 : g.racks.length = 2
  ply : g.player = 0 ∨ g.player = 1
  bag : g.bag.length ≤ 120
theorem gm_s {g : Gm} (h1 : shapeB g = true) (h2 : twoB g = true) (h3 : sideB g 0 = true) (h4 : sideB g 1 = true) : GmS g := by
  unfold shapeB setupB at h1
  unfold twoB at h2
  unfold sideB at h3 h4
  simp only [Bool.and_eq_true, decide_eq_true_eq] at h1 h2 h3 h4
  have hp := in_bd h2.2.2.2.1
  refine ⟨bdB.fit h1.2.1, h1.1.1, fun k => ?_, h2.1, by omega, bag_len h1.2.2.2.2⟩
  unfold Gm.rk
  rcases (show k.toNat = 0 ∨ k.toNat = 1 ∨ 2 ≤ k.toNat by omega) with h | h | h
  · rw [h]; exact rack_len h3.1
  · rw [h]; exact rack_len h4.1
  · rw [List.getD_eq_getElem?_getD, List.getElem?_eq_none (by omega)]; decide
theorem pkp_of {g : Gm} (hp : GmL g) (h : GmS g) : PkP g := ⟨tsB_ok h.ts, h.r2, h.ply, h.rk, hp.bf, hp.wd, hp.dr⟩
def sp_s_l18Ok (p : Pr) : FSpec := fsp (a1 (aP aGm)) (fun g => GmL g) (fun g => .b (gameB g))
theorem ok_s_l18Ok : FOk Tryz.prog 77 (sp_s_l18Ok std) := by
  refine FOk.go (c := cx std [(123, sp_s_l18Setup std), (124, sp_s_l11Ok std), (125, sp_s_l17Ok std), (78, sp_s_l00In std), (126, sp_s_l03Rack std), (127, sp_s_l11Letters std), (32, sp_s_l03Tiles std), (36, sp_s_l03Sort std), (128, sp_s_l02All std), (129, sp_s_l18LastOk std)] [] 0) (cx_ok (.cons ok_s_l18Setup (.cons ok_s_l11Ok (.cons ok_s_l17Ok (.cons ok_s_l00In (.cons ok_s_l03Rack (.cons ok_s_l11Letters (.cons ok_s_l03Tiles (.cons ok_s_l03Sort (.cons ok_s_l02All (.cons ok_s_l18LastOk .nil)))))))))) .nil) mixed Tryz.func77 rfl rfl rfl (by kernel_rfl) ?_
  rintro g hp
  refine ⟨rfl, ?_⟩
  unfold sp_s_l18Setup sp_s_l11Ok sp_s_l17Ok sp_s_l00In sp_s_l03Rack sp_s_l11Letters sp_s_l03Tiles sp_s_l03Sort sp_s_l02All sp_s_l18LastOk
  obtain ⟨H, hH⟩ : ∃ H : Hd (Int), H = ⟨fun k => 0 ≤ k ∧ k ≤ 2 ∧ (0 < k → sideB g 0 = true) ∧ (1 < k → sideB g 1 = true), fun k => (2 - k).toNat, (· < ·)⟩ := ⟨_, rfl⟩
  have hl : ∀ m n, H.lt m n → m < n := by subst hH; exact fun _ _ h => h
  generalize hP : std = p
  generalize hB0 : gameB = B0
  generalize hB1 : suB = B1
  generalize hB2 : bdB = B2
  generalize hB3 : bagB = B3
  generalize hB4 : rackB = B4
  generalize hB5 : inR = B5
  generalize hB6 : lettersS = B6
  generalize hB7 : tilesS = B7
  generalize hB8 : isort = B8
  generalize hB9 : allT = B9
  generalize hB10 : lastOk = B10
  cbv
  repeat' first
    | (refine fun (_ : Unit) => ?_; cbv)
    | (refine Or.inr ⟨90, [], [.s 3 (.i .i64)], [], [], H, rfl, hl, ?_, fun (k : Int) hk => ?_⟩ <;> cbv)
    | (refine And.intro (fun h => ?_) (fun h => ?_) <;> cbv)
    | (refine And.intro ?_ ?_)
  all_goals subst hP hB0 hB1 hB2 hB3 hB4 hB5 hB6 hB7 hB8 hB9 hB10 hH
  all_goals clear hl
  all_goals try dsimp only at hk
  all_goals try dsimp only
  all_goals try first
    | exact True.intro
    | with_reducible assumption
    | with_reducible exact byte_in
    | with_reducible exact hp.1
    | with_reducible exact hp.2
    | with_reducible exact hp.2.1
    | with_reducible exact hp.2.2
    | (simp [std] at * <;> lia)
    | rfl
  all_goals try (have hs : shapeB g = true := by rw [shapeE]; simp only [*, Bool.not_false, Bool.true_and, Bool.and_true])
  all_goals try (have htw : twoB g = true := by rw [twoE]; simp only [*, Bool.not_false, Bool.true_and, Bool.and_true])
  all_goals try (obtain ⟨q0, q1, q2, q3⟩ := hk)
  all_goals try (have hlt : k < 2 := lt_of (by assumption))
  all_goals try (have hge : 2 ≤ k := ge_of (by assumption))
  all_goals try (have hsd0 := q2 (by omega); have hsd1 := q3 (by omega))
  all_goals try (have hS := gm_s hs htw hsd0 hsd1; have hl := lettersS_len g.bd hS.fit; have htl := tilesS_len (lettersS g.bd); have hr0 := hS.rk 0; have hr1 := hS.rk 1; have hbg := hS.bag)
  all_goals try (have hlo : lastOk g = true := (by assumption))
  all_goals try (have hlf : lastOk g = false := (by assumption))
  all_goals first
    | exact hp.su
    | exact ltM_of hp.bag
    | exact ltM_of (hp.rk k)
    | exact ⟨Int.le_refl 0, by decide, fun h => absurd h (by decide), fun h => absurd h (by decide)⟩
    | (refine s_shape ?_; rw [shapeE]; simp only [*, Bool.not_false, Bool.true_and, Bool.false_and]; done)
    | (refine s_two ?_; rw [twoE]; simp only [*, Bool.not_false, Bool.true_and, Bool.false_and, Bool.and_false]; done)
    | exact s_side q0 hlt (side_n1 (by assumption))
    | exact s_side q0 hlt (side_n2 q0 (by assumption))
    | exact s_side q0 hlt (side_n3 q0 (by assumption))
    | exact side_suc q0 hlt q2 q3 (by assumption) (by assumption) (by assumption)
    | exact (tsB_all hS.ts).1
    | exact pkp_of hp hS
    | exact ltM_of (n := (lettersS g.bd).length) (by omega)
    | exact in64 (by show _ ≤ ((tilesS (lettersS g.bd)).length : Int) + ((g.rk 0).length : Int) ∧ ((tilesS (lettersS g.bd)).length : Int) + ((g.rk 0).length : Int) ≤ _; omega)
    | exact in64 (by show _ ≤ ((tilesS (lettersS g.bd) ++ g.rk 0).length : Int) + ((g.rk 1).length : Int) ∧ ((tilesS (lettersS g.bd) ++ g.rk 0).length : Int) + ((g.rk 1).length : Int) ≤ _; rw [List.length_append]; omega)
    | exact in64 (by show _ ≤ (((tilesS (lettersS g.bd) ++ g.rk 0) ++ g.rk 1).length : Int) + (g.bag.length : Int) ∧ (((tilesS (lettersS g.bd) ++ g.rk 0) ++ g.rk 1).length : Int) + (g.bag.length : Int) ≤ _; rw [List.length_append, List.length_append]; omega)
    | exact ltM_of (n := (((tilesS (lettersS g.bd) ++ g.rk 0) ++ g.rk 1) ++ g.bag).length) (by rw [List.length_append, List.length_append, List.length_append]; omega)
    | (rw [s_end hs htw hsd0 hsd1, show (gameTiles g == allT g.ts) = false by assumption]; rfl)
    | (rw [s_end hs htw hsd0 hsd1, show (gameTiles g == allT g.ts) = true by assumption, hlf]; rfl)
    | (rw [s_end hs htw hsd0 hsd1, show (gameTiles g == allT g.ts) = true by assumption, hlo, show g.over = true by assumption]; rfl)
    | (rw [s_end hs htw hsd0 hsd1, show (gameTiles g == allT g.ts) = true by assumption, hlo, show g.over = false by assumption]; rfl)
    | skip
end Ax
end Go.Proofs.YtdojdfminchlaaaGreatDoor
/-
  Codes of actions, of the spec package.
  Conditions: none.
-/
namespace Go.Proofs.YtdojdfminchlaaaGreatDoor
namespace Ax
set_option maxRecDepth 100000
set_option maxHeartbeats 2000000
structure SaF (g : Gm) : Prop where
  s : g.scores.length = 2
  k : g.clocks.length = 2
  ply : 0 ≤ g.player ∧ g.player ≤ 1
  clk : -36000 ≤ g.clk g.player ∧ g.clk g.player ≤ 36000
theorem sa_facts {g : Gm} (h : gameB g = true) : SaF g := by
  unfold gameB twoB sideB at h
  simp only [Bool.and_eq_true, decide_eq_true_eq] at h
  have hp := in_bd h.2.1.2.2.2.1
  have k0 := in_bd h.2.2.1.1.2.2
  have k1 := in_bd h.2.2.1.2.2.2
  refine ⟨h.2.1.2.1, h.2.1.2.2.1, hp, ?_⟩
  unfold Gm.clk
  rcases (show g.player.toNat = 0 ∨ g.player.toNat = 1 by omega) with e | e <;> rw [e]
  · exact k0
  · exact k1
theorem sa_over {g : Gm} {n : Int} (h : gameB g = true) (ho : g.over = true) : actC g n = 10 := by
  unfold actC; rw [if_pos h, if_pos ho]
theorem sa_2a {g : Gm} {n : Int} (h : gameB g = true) (ho : g.over = false) (hn : inR n 0 36000 = false) : actC g n = 2 := by
  unfold actC; rw [if_pos h, if_neg (by rw [ho]; simp), hn, if_neg (by simp)]
theorem sa_2b {g : Gm} {n : Int} (h : gameB g = true) (ho : g.over = false) (hn : std.ltI (g.clk g.player - n) (-36000) = true) : actC g n = 2 := by
  have h1 := lt_of hn
  unfold actC; rw [if_pos h, if_neg (by rw [ho]; simp), decide_eq_false (by omega), Bool.and_false, if_neg (by simp)]
theorem sa_go {g : Gm} {n : Int} (h : gameB g = true) (ho : g.over = false) (hi : inR n 0 36000 = true) (hn : std.ltI (g.clk g.player - n) (-36000) = false) : actC g n = if inR (g.sc 0) (-50000) 50000 && inR (g.sc 1) (-50000) 50000 then 0 else 5 := by
  have h1 := ge_of hn
  unfold actC; rw [if_pos h, if_neg (by rw [ho]; simp), hi, decide_eq_true (by omega)]; rfl
def sp_s_l18Begin (p : Pr) : FSpec := fsp (ac (aP aGm) (a1 aI)) (fun (g, n) => GmL g) (fun (g, n) => .i .i64 (actC g n))
theorem ok_s_l18Begin : FOk Tryz.prog 24 (sp_s_l18Begin std) := by
  refine FOk.go (c := cx std [(77, sp_s_l18Ok std), (78, sp_s_l00In std), (28, sp_s_l18Points std)] [] 0) (cx_ok (.cons ok_s_l18Ok (.cons ok_s_l00In (.cons ok_s_l18Points .nil))) .nil) mixed Tryz.func24 rfl rfl rfl (by kernel_rfl) ?_
  rintro ⟨g, n⟩ hp
  dsimp only at hp
  refine ⟨rfl, ?_⟩
  unfold sp_s_l18Ok sp_s_l00In sp_s_l18Points
  generalize hP : std = p
  generalize hB0 : actC = B0
  generalize hB1 : gameB = B1
  generalize hB2 : inR = B2
  cbv
  repeat' first
    | (refine fun (_ : Unit) => ?_; cbv)
    | (refine And.intro (fun h => ?_) (fun h => ?_) <;> cbv)
    | (refine And.intro ?_ ?_)
    | (refine Or.inl (fun (_ : Unit) => ?_); cbv)
  all_goals subst hP hB0 hB1 hB2
  all_goals try first
    | exact True.intro
    | with_reducible assumption
    | with_reducible exact byte_in
    | with_reducible exact hp.1
    | with_reducible exact hp.2
    | with_reducible exact hp.2.1
    | with_reducible exact hp.2.2
    | (simp [std] at * <;> lia)
    | rfl
  all_goals try (have hf := sa_facts (show gameB g = true by assumption); have hpl := hf.ply; have hck := hf.clk; have hkl := hf.k; have hsl := hf.s)
  all_goals try (have hn := in_bd (show inR n 0 36000 = true by assumption))
  all_goals first
    | exact ⟨hpl.1, by show g.player < (g.clocks.length : Int); omega⟩
    | exact ⟨by decide, by show (0 : Int) < (g.scores.length : Int); omega⟩
    | exact ⟨by decide, by show (1 : Int) < (g.scores.length : Int); omega⟩
    | exact in64 (by show _ ≤ g.clk g.player - n ∧ g.clk g.player - n ≤ _; omega)
    | (unfold actC; rw [if_neg (by rw [show gameB g = false by assumption]; simp)]; done)
    | (rw [sa_over (by assumption) (by assumption)]; done)
    | (rw [sa_2b (by assumption) (by assumption) (by assumption)]; done)
    | (rw [sa_2a (by assumption) (by assumption) (by assumption)]; done)
    | (rw [sa_go (by assumption) (by assumption) (by assumption) (by assumption), show inR (g.sc 0) (-50000) 50000 = true by assumption, show inR (g.sc 1) (-50000) 50000 = true by assumption]; rfl)
    | (rw [sa_go (by assumption) (by assumption) (by assumption) (by assumption), show inR (g.sc 0) (-50000) 50000 = false by assumption]; rfl)
    | (rw [sa_go (by assumption) (by assumption) (by assumption) (by assumption), show inR (g.sc 1) (-50000) 50000 = false by assumption, Bool.and_false]; rfl)
    | exact hp
    | skip
end Ax
end Go.Proofs.YtdojdfminchlaaaGreatDoor
/-
  Exits of a turn with a play, of the spec package.
  Conditions: none.
-/
namespace Go.Proofs.YtdojdfminchlaaaGreatDoor
namespace Ax
set_option maxRecDepth 100000
set_option maxHeartbeats 2000000
section
variable {g : Gm} {q : Pl} {n : Int}
theorem sg (h : std.eqI (actC g n) 0 = true) : gameB g = true := by
  have h := eqI_t h
  unfold actC at h
  by_cases h1 : gameB g = true
  · exact h1
  · rw [if_neg h1] at h; exact absurd h (by decide)
end
end Ax
end Go.Proofs.YtdojdfminchlaaaGreatDoor
