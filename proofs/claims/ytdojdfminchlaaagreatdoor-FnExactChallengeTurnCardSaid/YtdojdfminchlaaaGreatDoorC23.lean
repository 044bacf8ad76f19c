/-
  Sequences of letters, words that a play forms, whether it touches the board, its code, of the impl package; Crossings, words that a play forms, wrong words, whether it touches the board, its code, of the impl package; Words that a play forms, wrong words, whether it touches the board, its code, of the impl package; Wrong words, letters on the board, whether a play touches, its code, of the impl package; Scores of letters, of words, of plays of the impl package.
  Conditions: as each part below says.
-/
import Derived.Test.YtdojdfminchlaaaGreatDoorC22
import Derived.MapKept
set_option linter.unusedSimpArgs false
set_option linter.unusedVariables false
/-
  Sequences of letters, words that a play forms, whether it touches the board, its code, of the impl package.
  Conditions: none.
-/
namespace Go.Proofs.YtdojdfminchlaaaGreatDoor
namespace Ax
set_option maxRecDepth 100000
set_option maxHeartbeats 2000000
def aDir : Arg Bool := ⟨fun | .raw (.iface t (.agg ⟨[]⟩)) => if Nat.beq t 225 then some true else if Nat.beq t 226 then some false else none | _ => none, dirV, fun x a h => by
  split at h
  · split at h
    · rename_i ht
      cases h
      rw [Nat.eq_of_beq_eq_true ht]; rfl
    · split at h
      · rename_i ht
        cases h
        rw [Nat.eq_of_beq_eq_true ht]; rfl
      · cases h
  · cases h⟩
theorem let_in {b : Bd} {r c : Int} (h : b.let_ r c = true) : b.inB r c = true := by
  cases hi : b.inB r c
  · unfold Bd.let_ Bd.cell at h
    rw [hi] at h
    simp at h
  · rfl
/-- A square of a board. -/
structure SqIn (b : Bd) (r c : Int) : Prop where
  fit : b.Fit
  r : 0 ≤ r ∧ r ≤ 14
  c : 0 ≤ c ∧ c ≤ 14
theorem on_bd {b : Bd} {d : Bool} {r c n : Int} (h : SqIn b r c) (ho : onAt b d r c n = true) : -14 ≤ n ∧ n ≤ 14 := by
  have h1 := Fit_in h.fit (let_in ho)
  have h2 := h.r
  have h3 := h.c
  unfold sqAt at h1
  cases d
  · simp at h1; omega
  · simp at h1; omega
theorem bef_go {b : Bd} {d : Bool} {r c : Int} {f m : Nat} (h : onAt b d r c (-(m : Int) - 1) = true) : befN b d r c (f + 1) m = befN b d r c f (m + 1) := by rw [befN, if_pos h]
theorem bef_no {b : Bd} {d : Bool} {r c : Int} {f m : Nat} (h : onAt b d r c (-(m : Int) - 1) = false) : befN b d r c (f + 1) m = m := by rw [befN, if_neg (by rw [h]; simp)]
theorem seq_go {b : Bd} {d : Bool} {r c n : Int} {f : Nat} (h : onAt b d r c n = true) : seqGo b d r c (f + 1) n = n :: seqGo b d r c f (n + 1) := by rw [seqGo, if_pos h]
theorem seq_no {b : Bd} {d : Bool} {r c n : Int} {f : Nat} (h : onAt b d r c n = false) : seqGo b d r c f n = [] := by
  cases f with
  | zero => rfl
  | succ f => rw [seqGo, if_neg (by rw [h]; simp)]
/-- Where the sequence begins. -/
def firQ (b : Bd) (d : Bool) (r c : Int) : Int := -(befN b d r c 16 0 : Int)
def befQ (b : Bd) (d : Bool) (r c n : Int) : Prop := n ≤ 0 ∧ -15 ≤ n ∧ befN b d r c 16 0 = befN b d r c (16 + n).toNat (-n).toNat
def seqQ (b : Bd) (d : Bool) (r c n : Int) (L : List (Int × Int)) : Prop := firQ b d r c ≤ n ∧ n ≤ 15 ∧ seqL b d r c = L ++ (seqGo b d r c (32 - (n - firQ b d r c).toNat) n).map (fun n => sqAt d r c n) ∧ (L.length : Int) = n - firQ b d r c
section
variable {b : Bd} {d : Bool} {r c n : Int} {L : List (Int × Int)}
theorem bef_le (b : Bd) (d : Bool) (r c : Int) : ∀ f m, befN b d r c f m ≤ m + f
  | 0, m => Nat.le_refl _
  | f + 1, m => by
    rw [befN]
    split
    · have := bef_le b d r c f (m + 1); omega
    · omega
theorem fir_bd : -16 ≤ firQ b d r c ∧ firQ b d r c ≤ 0 := by
  have := bef_le b d r c 16 0
  unfold firQ; omega
theorem bef_init : befQ b d r c 0 := ⟨Int.le_refl 0, by decide, rfl⟩
theorem bef_step (hp : SqIn b r c) (hk : befQ b d r c n) (h : onAt b d r c (n - 1) = true) : befQ b d r c (n - 1) ∧ (16 + (n - 1)).toNat < (16 + n).toNat := by
  obtain ⟨h1, h2, h3⟩ := hk
  have h4 := on_bd hp h
  refine ⟨⟨by omega, by omega, ?_⟩, by omega⟩
  rw [h3, show (16 + n).toNat = (16 + (n - 1)).toNat + 1 by omega, bef_go (by rw [show -((-n).toNat : Int) - 1 = n - 1 by omega]; exact h)]
  congr 1; omega
theorem bef_end (hk : befQ b d r c n) (h : onAt b d r c (n - 1) = false) : seqQ b d r c n [] := by
  obtain ⟨h1, h2, h3⟩ := hk
  have e := bef_no (b := b) (d := d) (r := r) (c := c) (f := (15 + n).toNat) (m := (-n).toNat) (by rw [show -((-n).toNat : Int) - 1 = n - 1 by omega]; exact h)
  rw [show (16 + n).toNat = (15 + n).toNat + 1 by omega, e] at h3
  have h4 : firQ b d r c = n := by unfold firQ; rw [h3]; omega
  refine ⟨by omega, by omega, ?_, by rw [h4]; simp⟩
  rw [h4, show 32 - (n - n).toNat = 32 by omega]
  unfold seqL seqN
  rw [show -(befN b d r c 16 0 : Int) = n from h4]
  rfl
theorem seq_step (hp : SqIn b r c) (hk : seqQ b d r c n L) (h : onAt b d r c n = true) : seqQ b d r c (n + 1) (L ++ [sqAt d r c n]) ∧ (16 - (n + 1)).toNat < (16 - n).toNat := by
  obtain ⟨h1, h2, h3, h4⟩ := hk
  have h5 := on_bd hp h
  have h6 := fir_bd (b := b) (d := d) (r := r) (c := c)
  refine ⟨⟨by omega, by omega, ?_, by rw [List.length_append, List.length_singleton]; omega⟩, by omega⟩
  rw [h3, show 32 - (n - firQ b d r c).toNat = (32 - (n + 1 - firQ b d r c).toNat) + 1 by omega, seq_go h, List.map_cons, List.append_assoc]
  rfl
theorem seq_end (hk : seqQ b d r c n L) (h : onAt b d r c n = false) : L = seqL b d r c := by
  obtain ⟨h1, h2, h3, h4⟩ := hk
  rw [h3, seq_no h]; simp
theorem seq_len (hk : seqQ b d r c n L) : L.length ≤ 32 := by
  obtain ⟨h1, h2, h3, h4⟩ := hk
  have h6 := fir_bd (b := b) (d := d) (r := r) (c := c)
  omega
end
def sp_i_sequence (p : Pr) : FSpec := fsp (ac (aA aBd) (ac (aA aSq) (a1 aDir))) (fun (b, s, d) => SqIn b s.1 s.2) (fun (b, s, d) => .rsl [.i .i64, .i .i64] (seqL b d s.1 s.2))
def sp_i_sequence_o (p : Pr) : FSpec := fsp (ac (aA aBd) (ac (aA aSq) (a1 aDir))) (fun (b, s, d) => SqIn b s.1 s.2) (fun (b, s, d) => .osl 0) (fun (b, s, d) => [(0, .own [.i .i64, .i .i64] (seqL b d s.1 s.2) 149)])
theorem ok_i_sequence_o : FOk Tryz.prog 205 (sp_i_sequence_o std) := by
  refine FOk.go (c := cx std [(281, sp_i_right_at std), (279, sp_i_downwards_at std), (151, sp_i_Board_on std)] [] 0) (cx_ok (.cons ok_i_right_at (.cons ok_i_downwards_at (.cons ok_i_Board_on .nil))) .nil) mixed Tryz.func205 rfl rfl rfl (by kernel_rfl) ?_
  rintro ⟨b, s, d⟩ hp
  dsimp only at hp
  obtain ⟨dd, hd⟩ : ∃ x, x = d := ⟨_, rfl⟩
  cases d
  all_goals
    refine ⟨rfl, ?_⟩
    unfold sp_i_right_at sp_i_downwards_at sp_i_Board_on
    obtain ⟨H, hH⟩ : ∃ H : Hd (Int), H = ⟨fun n => befQ b dd s.1 s.2 n, fun n => (16 + n).toNat, (· < ·)⟩ := ⟨_, rfl⟩
    have hl : ∀ m n, H.lt m n → m < n := by subst hH; exact fun _ _ h => h
    obtain ⟨H2, hH2⟩ : ∃ H : Hd (Int × List (Int × Int)), H = ⟨fun (n, L) => seqQ b dd s.1 s.2 n L, fun (n, L) => (16 - n).toNat, (· < ·)⟩ := ⟨_, rfl⟩
    have hl2 : ∀ m n, H2.lt m n → m < n := by subst hH2; exact fun _ _ h => h
    generalize hP : std = p
    generalize hB0 : Bd.let_ = B0
    generalize hB1 : seqL = B1
    cbv
    repeat' first
      | (refine fun (_ : Unit) => ?_; cbv)
      | (refine Or.inr ⟨10, [], [.s 7 (.i .i64)], [], [], H, rfl, hl, ?_, fun (n : Int) hk => ?_⟩ <;> cbv)
      | (refine Or.inr ⟨24, [], [.s 9 (.i .i64), .o 2 [.i .i64, .i .i64]], [.s 8], [], H2, rfl, hl2, ?_, fun ((n, L) : Int × List (Int × Int)) hk2 => ?_⟩ <;> cbv)
      | (refine And.intro (fun h => ?_) (fun h => ?_) <;> cbv)
      | (refine And.intro ?_ ?_)
  all_goals subst hP hB0 hB1 hH hH2
  all_goals clear hl
  all_goals try dsimp only at hk
  all_goals clear hl2
  all_goals try dsimp only at hk2
  all_goals try dsimp only
  all_goals try first
    | exact True.intro
    | with_reducible assumption
    | with_reducible exact byte_in
    | with_reducible exact hp.1
    | with_reducible exact hp.2
    | with_reducible exact hp.2.1
    | with_reducible exact hp.2.2
    | (simp [std] at * <;> lia)
    | rfl
  all_goals subst hd
  all_goals have fb := fir_bd (b := b) (d := false) (r := s.1) (c := s.2)
  all_goals have fb' := fir_bd (b := b) (d := true) (r := s.1) (c := s.2)
  all_goals have b1 := hp.r
  all_goals have b2 := hp.c
  · exact bef_init
  · obtain ⟨a1, a2, a3⟩ := hk; exact in64 (by show _ ≤ n - 1 ∧ n - 1 ≤ _; omega)
  · obtain ⟨a1, a2, a3⟩ := hk; exact in64 (by show _ ≤ s.2 + (n - 1) ∧ s.2 + (n - 1) ≤ _; omega)
  · obtain ⟨a1, a2, a3⟩ := hk; exact in64 (by show _ ≤ n - 1 ∧ n - 1 ≤ _; omega)
  · exact (bef_step hp hk (show onAt b false s.1 s.2 (n - 1) = true by assumption)).1
  · exact (bef_step hp hk (show onAt b false s.1 s.2 (n - 1) = true by assumption)).2
  · exact bef_end hk (show onAt b false s.1 s.2 (n - 1) = false by assumption)
  · obtain ⟨a1, a2, a3, a4⟩ := hk2; exact in64 (by show _ ≤ s.2 + n ∧ s.2 + n ≤ _; omega)
  · obtain ⟨a1, a2, a3, a4⟩ := hk2; exact in64 (by show _ ≤ s.2 + n ∧ s.2 + n ≤ _; omega)
  · have := seq_len hk2
    show (L.length : Int) + 1 ≤ _; omega
  · obtain ⟨a1, a2, a3, a4⟩ := hk2; exact in64 (by show _ ≤ n + 1 ∧ n + 1 ≤ _; omega)
  · exact (seq_step hp hk2 (show onAt b false s.1 s.2 n = true by assumption)).1
  · exact (seq_step hp hk2 (show onAt b false s.1 s.2 n = true by assumption)).2
  · rw [seq_end hk2 (show onAt b false s.1 s.2 n = false by assumption)]
  · exact bef_init
  · obtain ⟨a1, a2, a3⟩ := hk; exact in64 (by show _ ≤ n - 1 ∧ n - 1 ≤ _; omega)
  · obtain ⟨a1, a2, a3⟩ := hk; exact in64 (by show _ ≤ s.1 + (n - 1) ∧ s.1 + (n - 1) ≤ _; omega)
  · obtain ⟨a1, a2, a3⟩ := hk; exact in64 (by show _ ≤ n - 1 ∧ n - 1 ≤ _; omega)
  · exact (bef_step hp hk (show onAt b true s.1 s.2 (n - 1) = true by assumption)).1
  · exact (bef_step hp hk (show onAt b true s.1 s.2 (n - 1) = true by assumption)).2
  · exact bef_end hk (show onAt b true s.1 s.2 (n - 1) = false by assumption)
  · obtain ⟨a1, a2, a3, a4⟩ := hk2; exact in64 (by show _ ≤ s.1 + n ∧ s.1 + n ≤ _; omega)
  · obtain ⟨a1, a2, a3, a4⟩ := hk2; exact in64 (by show _ ≤ s.1 + n ∧ s.1 + n ≤ _; omega)
  · have := seq_len hk2
    show (L.length : Int) + 1 ≤ _; omega
  · obtain ⟨a1, a2, a3, a4⟩ := hk2; exact in64 (by show _ ≤ n + 1 ∧ n + 1 ≤ _; omega)
  · exact (seq_step hp hk2 (show onAt b true s.1 s.2 n = true by assumption)).1
  · exact (seq_step hp hk2 (show onAt b true s.1 s.2 n = true by assumption)).2
  · rw [seq_end hk2 (show onAt b true s.1 s.2 n = false by assumption)]
theorem ok_i_sequence : FOk Tryz.prog 205 (sp_i_sequence std) := FOk.frz ok_i_sequence_o fun ⟨b, s, d⟩ => ⟨by simp [deep, deeps, AH.get], by simp [PV.idIn, idInL]⟩
end Ax
end Go.Proofs.YtdojdfminchlaaaGreatDoor
/-
  Crossings, words that a play forms, wrong words, whether it touches the board, its code, of the impl package.
  Conditions: none.
-/
namespace Go.Proofs.YtdojdfminchlaaaGreatDoor
namespace Ax
set_option maxRecDepth 100000
set_option maxHeartbeats 2000000
def crTo (b : Bd) (q : Pl) (k : Int) : List ((Int × Int) × List (Int × Int)) := crossP b q ((newL b q).take k.toNat)
def crS1 (b : Bd) (q : Pl) : List (Int × Int) := (crossP b q (newL b q)).map (·.1)
def crS2 (b : Bd) (q : Pl) : List (List (Int × Int)) := (crossP b q (newL b q)).map (·.2)
section
variable {b : Bd} {q : Pl} {k : Int}
theorem ns_len : (nsI b q).length = (newL b q).length := by simp [nsI, sqL]
theorem ns_at (h0 : 0 ≤ k) (h : k < (nsI b q).length) : ∃ n : Nat, n < q.word.length ∧ (nsI b q).getD k.toNat (0, 0) = (q.sr n, q.sc n) ∧ (newL b q).take (k + 1).toNat = (newL b q).take k.toNat ++ [n] := by
  rw [ns_len] at h
  have hk : k.toNat < (newL b q).length := by omega
  have hm : (newL b q)[k.toNat] ∈ newL b q := List.getElem_mem hk
  refine ⟨(newL b q)[k.toNat], ?_, ?_, ?_⟩
  · unfold newL newTo at hm
    exact List.mem_range.1 (List.mem_filter.1 hm).1
  · unfold nsI sqL
    rw [List.getD_eq_getElem?_getD, List.getElem?_map, List.getElem?_eq_getElem hk]; rfl
  · rw [tk h0 (by omega) 0, List.getD_eq_getElem?_getD, List.getElem?_eq_getElem hk]; rfl
theorem cr_suc (h0 : 0 ≤ k) (h : k < (nsI b q).length) : crTo b q (k + 1) = crTo b q k ++ if 2 ≤ (seqL (madeB b q) (!q.down) ((nsI b q).getD k.toNat (0, 0)).1 ((nsI b q).getD k.toNat (0, 0)).2).length then [((nsI b q).getD k.toNat (0, 0), seqL (madeB b q) (!q.down) ((nsI b q).getD k.toNat (0, 0)).1 ((nsI b q).getD k.toNat (0, 0)).2)] else [] := by
  obtain ⟨n, h1, h2, h3⟩ := ns_at h0 h
  rw [h2]
  unfold crTo
  rw [h3]
  unfold crossP sqL
  rw [List.map_append, List.map_append, List.filter_append]
  congr 1
  by_cases h4 : 2 ≤ (seqL (madeB b q) (!q.down) (q.sr (n : Int)) (q.sc (n : Int))).length
  · simp [h4]
  · simp [h4]
theorem made_fit (h : VP b q) : (madeB b q).Fit := ⟨h.fit.lo, h.fit.hi, h.fit.prem, by show ((madeTo b q q.word.length).length : Int) = _; rw [made_len]; exact h.fit.cells⟩
theorem ns_in (hp : VP b q) (h0 : 0 ≤ k) (h : k < (nsI b q).length) : b.inB ((nsI b q).getD k.toNat (0, 0)).1 ((nsI b q).getD k.toNat (0, 0)).2 = true := by
  obtain ⟨n, h1, h2, -⟩ := ns_at h0 h
  rw [h2]
  exact hp.on n h1
theorem ns_sq (hp : VP b q) (h0 : 0 ≤ k) (h : k < (nsI b q).length) : SqIn (madeB b q) ((nsI b q).getD k.toNat (0, 0)).1 ((nsI b q).getD k.toNat (0, 0)).2 := by
  have h1 := Fit_in hp.fit (ns_in hp h0 h)
  exact ⟨made_fit hp, h1.1, h1.2⟩
theorem cr_len (hp : VP b q) : (crTo b q k).length ≤ 12 := by
  have h1 := crossP_length b q ((newL b q).take k.toNat)
  have h2 := newTo_length b q q.word.length
  have h3 := hp.hi
  have h4 : ((newL b q).take k.toNat).length ≤ (newL b q).length := by rw [List.length_take]; omega
  have h5 : (newL b q).length ≤ q.word.length := h2
  unfold crTo
  omega
theorem cr_all (hge : ((nsI b q).length : Int) ≤ k) : crTo b q k = crossP b q (newL b q) := by
  unfold crTo
  rw [List.take_of_length_le (by rw [ns_len] at hge; omega)]
end
def sp_i_crossings (p : Pr) : FSpec := fsp (ac (aA aBd) (a1 (aA aPl))) (fun (b, q) => VP b q) (fun (b, q) => .tup [.rsl [.i .i64, .i .i64] (crS1 b q), .rsl [.r [.i .i64, .i .i64]] (crS2 b q)])
def sp_i_crossings_o (p : Pr) : FSpec := fsp (ac (aA aBd) (a1 (aA aPl))) (fun (b, q) => VP b q) (fun (b, q) => .tup [.osl 0, .osl 1]) (fun (b, q) => [(0, .own [.i .i64, .i .i64] (crS1 b q) 149), (1, .own [.r [.i .i64, .i .i64]] (crS2 b q) 133)])
theorem ok_i_crossings_o : FOk Tryz.prog 155 (sp_i_crossings_o std) := by
  refine FOk.go (c := cx std [(53, sp_i_made std), (96, sp_i_newSquares std), (205, sp_i_sequence std), (172, sp_i_directionOf std), (282, sp_i_right_cross std), (280, sp_i_downwards_cross std)] [] 0) (cx_ok (.cons ok_i_made (.cons ok_i_newSquares (.cons ok_i_sequence (.cons ok_i_directionOf (.cons ok_i_right_cross (.cons ok_i_downwards_cross .nil)))))) .nil) mixed Tryz.func155 rfl rfl rfl (by kernel_rfl) ?_
  rintro ⟨b, q⟩ hp
  dsimp only at hp
  obtain ⟨row, col, dn, wd⟩ := q
  obtain ⟨q, hq⟩ : ∃ x : Pl, x = ⟨row, col, dn, wd⟩ := ⟨_, rfl⟩
  cases dn
  all_goals
    refine ⟨rfl, ?_⟩
    unfold sp_i_made sp_i_newSquares sp_i_sequence sp_i_directionOf sp_i_right_cross sp_i_downwards_cross
    obtain ⟨H, hH⟩ : ∃ H : Hd (Int × List (Int × Int) × List (List (Int × Int))), H = ⟨fun (k, S, W) => 0 ≤ k ∧ k ≤ (nsI b q).length ∧ S = (crTo b q k).map (·.1) ∧ W = (crTo b q k).map (·.2), fun (k, S, W) => ((nsI b q).length - k).toNat, (· < ·)⟩ := ⟨_, rfl⟩
    have hl : ∀ m n, H.lt m n → m < n := by subst hH; exact fun _ _ h => h
    generalize hP : std = p
    generalize hB0 : crS1 = B0
    generalize hB1 : crS2 = B1
    generalize hB2 : madeB = B2
    generalize hB3 : nsI = B3
    generalize hB4 : npI = B4
    generalize hB5 : seqL = B5
    cbv
    repeat' first
      | (refine fun (_ : Unit) => ?_; cbv)
      | (refine Or.inr ⟨28, [], [.s 27 (.i .i64), .o 3 [.i .i64, .i .i64], .o 4 [.r [.i .i64, .i .i64]]], [.s 9, .s 10], [], H, rfl, hl, ?_, fun ((k, S, W) : Int × List (Int × Int) × List (List (Int × Int))) hk => ?_⟩ <;> cbv)
      | (refine And.intro (fun h => ?_) (fun h => ?_) <;> cbv)
      | (refine And.intro ?_ ?_)
  all_goals subst hP hB0 hB1 hB2 hB3 hB4 hB5 hH
  all_goals clear hl
  all_goals try dsimp only at hk
  all_goals try dsimp only
  all_goals try first
    | exact True.intro
    | with_reducible assumption
    | with_reducible exact byte_in
    | with_reducible exact hp.1
    | with_reducible exact hp.2
    | with_reducible exact hp.2.1
    | with_reducible exact hp.2.2
    | (simp [std] at * <;> lia)
    | rfl
  all_goals (have hdn := congrArg Pl.down hq; dsimp only at hdn)
  all_goals (try simp only [eta_bd, ← hq] at *)
  all_goals try (obtain ⟨q0, q1, rfl, rfl⟩ := hk)
  all_goals try (have q1 : k ≤ ((nsI b q).length : Int) := q1)
  all_goals try (have hlt : k < ((nsI b q).length : Int) := lt_of (by assumption))
  all_goals (have hn := newTo_length b q q.word.length; have hw := hp.hi; have hnl := ns_len (b := b) (q := q); have hn : (newL b q).length ≤ q.word.length := hn)
  · exact ⟨Int.le_refl 0, Int.natCast_nonneg _, rfl, rfl⟩
  · exact ns_sq hp (by omega) (by omega)
  · have := cr_len (k := k) hp
    show (((crTo b q k).map (·.1)).length : Int) + 1 ≤ _
    rw [List.length_map]; omega
  · have := cr_len (k := k) hp
    show (((crTo b q k).map (·.2)).length : Int) + 1 ≤ _
    rw [List.length_map]; omega
  · exact in64 (by show _ ≤ k + 1 ∧ k + 1 ≤ _; omega)
  · have h2 : 2 ≤ (seqL (madeB b q) (!q.down) ((nsI b q).getD k.toNat (0, 0)).1 ((nsI b q).getD k.toNat (0, 0)).2).length := by
      rw [hdn]
      have := (show std.leI 2 (std.len (seqL (madeB b q) true ((nsI b q).getD k.toNat (0, 0)).1 ((nsI b q).getD k.toNat (0, 0)).2)) = true by assumption)
      simp at this; simp; omega
    refine ⟨by show 0 ≤ k + 1; omega, by show k + 1 ≤ ((nsI b q).length : Int); omega, ?_, ?_⟩
    · show (crTo b q k).map (·.1) ++ [(nsI b q).getD k.toNat (0, 0)] = (crTo b q (k + 1)).map (·.1)
      rw [cr_suc (by omega) (by omega), if_pos h2]; simp
    · show (crTo b q k).map (·.2) ++ [seqL (madeB b q) true ((nsI b q).getD k.toNat (0, 0)).1 ((nsI b q).getD k.toNat (0, 0)).2] = (crTo b q (k + 1)).map (·.2)
      rw [cr_suc (by omega) (by omega), if_pos h2, hdn]; simp
  · exact in64 (by show _ ≤ k + 1 ∧ k + 1 ≤ _; omega)
  · have h2 : ¬ 2 ≤ (seqL (madeB b q) (!q.down) ((nsI b q).getD k.toNat (0, 0)).1 ((nsI b q).getD k.toNat (0, 0)).2).length := by
      rw [hdn]
      have := (show std.leI 2 (std.len (seqL (madeB b q) true ((nsI b q).getD k.toNat (0, 0)).1 ((nsI b q).getD k.toNat (0, 0)).2)) = false by assumption)
      simp at this; simp; omega
    refine ⟨by show 0 ≤ k + 1; omega, by show k + 1 ≤ ((nsI b q).length : Int); omega, ?_, ?_⟩
    · show (crTo b q k).map (·.1) = (crTo b q (k + 1)).map (·.1)
      rw [cr_suc (by omega) (by omega), if_neg h2]; simp
    · show (crTo b q k).map (·.2) = (crTo b q (k + 1)).map (·.2)
      rw [cr_suc (by omega) (by omega), if_neg h2]; simp
  · rw [cr_all (ge_of (by assumption))]; rfl
  · rw [cr_all (ge_of (by assumption))]; rfl
  · exact ⟨Int.le_refl 0, Int.natCast_nonneg _, rfl, rfl⟩
  · exact ns_sq hp (by omega) (by omega)
  · have := cr_len (k := k) hp
    show (((crTo b q k).map (·.1)).length : Int) + 1 ≤ _
    rw [List.length_map]; omega
  · have := cr_len (k := k) hp
    show (((crTo b q k).map (·.2)).length : Int) + 1 ≤ _
    rw [List.length_map]; omega
  · exact in64 (by show _ ≤ k + 1 ∧ k + 1 ≤ _; omega)
  · have h2 : 2 ≤ (seqL (madeB b q) (!q.down) ((nsI b q).getD k.toNat (0, 0)).1 ((nsI b q).getD k.toNat (0, 0)).2).length := by
      rw [hdn]
      have := (show std.leI 2 (std.len (seqL (madeB b q) false ((nsI b q).getD k.toNat (0, 0)).1 ((nsI b q).getD k.toNat (0, 0)).2)) = true by assumption)
      simp at this; simp; omega
    refine ⟨by show 0 ≤ k + 1; omega, by show k + 1 ≤ ((nsI b q).length : Int); omega, ?_, ?_⟩
    · show (crTo b q k).map (·.1) ++ [(nsI b q).getD k.toNat (0, 0)] = (crTo b q (k + 1)).map (·.1)
      rw [cr_suc (by omega) (by omega), if_pos h2]; simp
    · show (crTo b q k).map (·.2) ++ [seqL (madeB b q) false ((nsI b q).getD k.toNat (0, 0)).1 ((nsI b q).getD k.toNat (0, 0)).2] = (crTo b q (k + 1)).map (·.2)
      rw [cr_suc (by omega) (by omega), if_pos h2, hdn]; simp
  · exact in64 (by show _ ≤ k + 1 ∧ k + 1 ≤ _; omega)
  · have h2 : ¬ 2 ≤ (seqL (madeB b q) (!q.down) ((nsI b q).getD k.toNat (0, 0)).1 ((nsI b q).getD k.toNat (0, 0)).2).length := by
      rw [hdn]
      have := (show std.leI 2 (std.len (seqL (madeB b q) false ((nsI b q).getD k.toNat (0, 0)).1 ((nsI b q).getD k.toNat (0, 0)).2)) = false by assumption)
      simp at this; simp; omega
    refine ⟨by show 0 ≤ k + 1; omega, by show k + 1 ≤ ((nsI b q).length : Int); omega, ?_, ?_⟩
    · show (crTo b q k).map (·.1) = (crTo b q (k + 1)).map (·.1)
      rw [cr_suc (by omega) (by omega), if_neg h2]; simp
    · show (crTo b q k).map (·.2) = (crTo b q (k + 1)).map (·.2)
      rw [cr_suc (by omega) (by omega), if_neg h2]; simp
  · rw [cr_all (ge_of (by assumption))]; rfl
  · rw [cr_all (ge_of (by assumption))]; rfl
theorem ok_i_crossings : FOk Tryz.prog 155 (sp_i_crossings std) := FOk.frz ok_i_crossings_o fun ⟨b, q⟩ => ⟨by simp [deep, deeps, AH.get], by simp [PV.idIn, idInL]⟩
end Ax
end Go.Proofs.YtdojdfminchlaaaGreatDoor
/-
  Words that a play forms, wrong words, whether it touches the board, its code, of the impl package.
  Conditions: none.
-/
namespace Go.Proofs.YtdojdfminchlaaaGreatDoor
namespace Ax
set_option maxRecDepth 100000
set_option maxHeartbeats 2000000
section
variable {b : Bd} {q : Pl} {k j : Int}
theorem asciiB_getD {s : Str} (h : asciiB s = true) (k : Nat) : (s.getD k 0).toNat < 128 := by
  rw [List.getD_eq_getElem?_getD]
  rcases Nat.lt_or_ge k s.length with hk | hk
  · rw [List.getElem?_eq_getElem hk]
    have := List.all_eq_true.1 h _ (List.getElem_mem hk)
    simpa using this
  · rw [List.getElem?_eq_none hk]; decide
theorem madeTo_ascii (hb : asciiB b.cells = true) (hq : asciiB q.word = true) : ∀ k, asciiB (madeTo b q k) = true
  | 0 => hb
  | k + 1 => by
    rw [made_suc]
    refine List.all_eq_true.2 fun c hc => ?_
    rcases List.mem_or_eq_of_mem_set hc with h | h
    · exact List.all_eq_true.1 (madeTo_ascii hb hq k) c h
    · subst h; simpa using asciiB_getD hq k
theorem sqW_ascii {M : Bd} (hM : asciiB M.cells = true) (l : List (Int × Int)) : asciiB (sqW M l) = true := by
  refine List.all_eq_true.2 fun c hc => ?_
  obtain ⟨s, _, rfl⟩ := List.mem_map.1 hc
  unfold Bd.cell
  split
  · simpa [Bd.at_] using asciiB_getD hM _
  · decide
theorem cellB_ascii {c : UInt8} (h : cellB c = true) : c.toNat < 128 := by
  unfold cellB smallB capB at h
  simp only [Bool.or_eq_true, Bool.and_eq_true, decide_eq_true_eq, beq_iff_eq] at h
  rcases h with (rfl | h) | h
  · decide
  · omega
  · omega
theorem bd_ascii (h : bdB b = true) : asciiB b.cells = true := by
  have hf := bdB.fit h
  unfold bdB at h
  rw [okFrom_eq _ _ (by have := hf.prem; have := hf.cells; omega)] at h
  simp only [Bool.and_eq_true] at h
  refine List.all_eq_true.2 fun c hc => ?_
  have := cellB_ascii (List.all_eq_true.1 h.2.2.2.2 c hc)
  simpa using this
theorem lowU_asc {s : Str} (h : asciiB s = true) : lowU s = lowS s := by
  unfold lowU
  rw [Lib.toLowerD_ascii _ (fun b hb => by simpa using List.all_eq_true.1 h b hb)]
  exact toLowerA_low s
theorem cr2_len (hp : VP b q) : (crS2 b q).length ≤ 12 := by
  unfold crS2
  have h1 := crossP_length b q (newL b q)
  have h2 := newTo_length b q q.word.length
  have h3 := hp.hi
  have h5 : (newL b q).length ≤ q.word.length := h2
  rw [List.length_map]; omega
theorem cr2_at (j : Nat) : ((crS2 b q).getD j []).length ≤ 32 := by
  rcases Nat.lt_or_ge j (crS2 b q).length with h | h
  · rw [List.getD_eq_getElem?_getD, List.getElem?_eq_getElem h]
    obtain ⟨x, h1, h2⟩ := List.mem_map.1 (List.getElem_mem h)
    show ((crS2 b q)[j]).length ≤ 32
    rw [← h2]
    exact crossP_seq b q _ x h1
  · rw [List.getD_eq_getElem?_getD, List.getElem?_eq_none h]; decide
def crW (b : Bd) (q : Pl) (k : Int) : List Str := lowU q.word :: ((crS2 b q).take k.toNat).map fun l => lowU (sqW (madeB b q) l)
def crSq (b : Bd) (q : Pl) (k : Int) : List (Int × Int) := (crS2 b q).getD k.toNat []
theorem crW_all (hp : VP b q) (hge : ((crS2 b q).length : Int) ≤ k) : crW b q k = wordsI b q := by
  have hM : asciiB (madeB b q).cells = true := madeTo_ascii (bd_ascii hp.bd) (lettB_ascii hp.lett) _
  unfold crW wordsI crossW
  rw [List.take_of_length_le (by omega), lowU_asc (lettB_ascii hp.lett)]
  unfold crS2
  rw [List.map_map]
  congr 1
  exact List.map_congr_left fun x _ => lowU_asc (sqW_ascii hM _)
theorem crW_suc (h0 : 0 ≤ k) (h : k < (crS2 b q).length) : crW b q (k + 1) = crW b q k ++ [lowU (sqW (madeB b q) (crSq b q k))] := by
  unfold crW crSq
  rw [tk h0 h [], List.map_append]; rfl
theorem crW_len (h : VP b q) : (crW b q k).length ≤ 13 := by
  have := cr2_len h
  unfold crW
  rw [List.length_cons, List.length_map, List.length_take]; omega
theorem words_len (h : VP b q) : (wordsI b q).length ≤ 13 := by
  rw [← crW_all h (Int.le_refl _)]; exact crW_len h
theorem sqW_suc {M : Bd} {l : List (Int × Int)} (h0 : 0 ≤ k) (h : k < l.length) : toBl (sqW M (l.take k.toNat)) ++ [celV M (l.getD k.toNat (0, 0)).1 (l.getD k.toNat (0, 0)).2] = toBl (sqW M (l.take (k + 1).toNat)) := by
  rw [tk h0 h (0, 0)]
  unfold sqW celV toBl
  rw [List.map_append, List.map_append]; rfl
end
def sp_i_wordsFormed (p : Pr) : FSpec := fsp (ac (aA aBd) (a1 (aA aPl))) (fun (b, q) => VP b q) (fun (b, q) => .rsl [.s] (wordsI b q))
def sp_i_wordsFormed_o (p : Pr) : FSpec := fsp (ac (aA aBd) (a1 (aA aPl))) (fun (b, q) => VP b q) (fun (b, q) => .osl 0) (fun (b, q) => [(0, .own [.s] (wordsI b q) 9)])
theorem ok_i_wordsFormed_o : FOk Tryz.prog 98 (sp_i_wordsFormed_o std) := by
  refine FOk.go (c := cx std [(53, sp_i_made std), (155, sp_i_crossings std), (154, sp_i_lower std), (152, sp_i_Board_cell std)] [] 0) (cx_ok (.cons ok_i_made (.cons ok_i_crossings (.cons ok_i_lower (.cons ok_i_Board_cell .nil)))) .nil) mixed Tryz.func98 rfl rfl rfl (by kernel_rfl) ?_
  rintro ⟨b, q⟩ hp
  dsimp only at hp
  refine ⟨rfl, ?_⟩
  unfold sp_i_made sp_i_crossings sp_i_lower sp_i_Board_cell
  obtain ⟨H, hH⟩ : ∃ H : Hd (Int × List (List UInt8)), H = ⟨fun (k, W) => 0 ≤ k ∧ k ≤ (crS2 b q).length ∧ W = crW b q k, fun (k, W) => ((crS2 b q).length - k).toNat, (· < ·)⟩ := ⟨_, rfl⟩
  have hl : ∀ m n, H.lt m n → m < n := by subst hH; exact fun _ _ h => h
  obtain ⟨H2, hH2⟩ : ∃ H : (Int × List (List UInt8)) → Hd (Int × List Int), H = fun (k, W) => ⟨fun (j, L) => 0 ≤ j ∧ j ≤ (crSq b q k).length ∧ L = toBl (sqW (madeB b q) ((crSq b q k).take j.toNat)), fun (j, L) => ((crSq b q k).length - j).toNat, (· < ·)⟩ := ⟨_, rfl⟩
  have hl2 : ∀ x m n, (H2 x).lt m n → m < n := by subst hH2; exact fun _ _ _ h => h
  generalize hP : std = p
  generalize hB0 : wordsI = B0
  generalize hB1 : crS1 = B1
  generalize hB2 : crS2 = B2
  generalize hB3 : crSq = B3
  generalize hB4 : madeB = B4
  generalize hB5 : lowU = B5
  generalize hB6 : celV = B6
  cbv
  repeat' first
    | (refine fun (_ : Unit) => ?_; cbv)
    | (refine Or.inr ⟨30, [], [.s 29 (.i .i64), .o 3 [.s]], [.s 6], [], H, rfl, hl, ?_, fun ((k, W) : Int × List (List UInt8)) hk => ?_⟩ <;> cbv)
    | (refine Or.inr ⟨37, [], [.s 36 (.i .i64), .o 4 [.i .u8]], [.s 11], [], H2 (k, W), rfl, hl2 _, ?_, fun ((j, L) : Int × List Int) hk2 => ?_⟩ <;> cbv)
    | (refine And.intro (fun h => ?_) (fun h => ?_) <;> cbv)
    | (refine And.intro ?_ ?_)
  all_goals subst hP hB0 hB1 hB2 hB3 hB4 hB5 hB6 hH hH2
  all_goals clear hl
  all_goals try dsimp only at hk
  all_goals clear hl2
  all_goals try dsimp only at hk2
  all_goals try dsimp only
  all_goals try first
    | exact True.intro
    | with_reducible assumption
    | with_reducible exact byte_in
    | with_reducible exact hp.1
    | with_reducible exact hp.2
    | with_reducible exact hp.2.1
    | with_reducible exact hp.2.2
    | (simp [std] at * <;> lia)
    | rfl
  all_goals (try simp only [eta_bd, eta_pl] at *)
  all_goals try (obtain ⟨q0, q1, rfl⟩ := hk)
  all_goals try (have q1 : k ≤ ((crS2 b q).length : Int) := q1)
  all_goals try (obtain ⟨r0, r1, rfl⟩ := hk2)
  all_goals try (have r1 : j ≤ ((crSq b q k).length : Int) := r1)
  all_goals have hcl := cr2_len hp
  all_goals try (have hcw := crW_len (k := k) hp)
  all_goals try (have hsl : (crSq b q k).length ≤ 32 := cr2_at k.toNat)
  · show (q.word.length : Int) ≤ 1073741824
    have := hp.hi; omega
  · exact ⟨Int.le_refl 0, Int.natCast_nonneg _, rfl⟩
  · exact ⟨Int.le_refl 0, Int.natCast_nonneg _, rfl⟩
  · have h : j < ((crSq b q k).length : Int) := lt_of (by assumption)
    exact ⟨r0, h⟩
  · exact made_fit hp
  · show ((toBl (sqW (madeB b q) ((crSq b q k).take j.toNat))).length : Int) + 1 ≤ _
    rw [toB_len]; unfold sqW; rw [List.length_map, List.length_take]; omega
  · have h : j < ((crSq b q k).length : Int) := lt_of (by assumption)
    exact in64 (by show _ ≤ j + 1 ∧ j + 1 ≤ _; omega)
  · have h : j < ((crSq b q k).length : Int) := lt_of (by assumption)
    exact ⟨by show 0 ≤ j + 1; omega, by show j + 1 ≤ ((crSq b q k).length : Int); omega, sqW_suc r0 h⟩
  · have h : j < ((crSq b q k).length : Int) := lt_of (by assumption)
    show (((crSq b q k).length : Int) - (j + 1)).toNat < (((crSq b q k).length : Int) - j).toNat
    omega
  · show ((toSl (toBl (sqW (madeB b q) ((crSq b q k).take j.toNat)))).length : Int) ≤ _
    rw [toS_toB]; unfold sqW; rw [List.length_map, List.length_take]; omega
  · show ((crW b q k).length : Int) + 1 ≤ _
    omega
  · have h : k < ((crS2 b q).length : Int) := lt_of (by assumption)
    exact in64 (by show _ ≤ k + 1 ∧ k + 1 ≤ _; omega)
  · have h : k < ((crS2 b q).length : Int) := lt_of (by assumption)
    have h2 : ((crSq b q k).length : Int) ≤ j := ge_of (by assumption)
    refine ⟨by show 0 ≤ k + 1; omega, by show k + 1 ≤ ((crS2 b q).length : Int); omega, ?_⟩
    show crW b q k ++ [lowU (toSl (toBl (sqW (madeB b q) ((crSq b q k).take j.toNat))))] = crW b q (k + 1)
    have h3 : (crSq b q k).take j.toNat = crSq b q k := List.take_of_length_le (by omega)
    rw [crW_suc q0 h, toS_toB, h3]
  · rw [crW_all hp (ge_of (by assumption))]
theorem ok_i_wordsFormed : FOk Tryz.prog 98 (sp_i_wordsFormed std) := FOk.frz ok_i_wordsFormed_o fun ⟨b, q⟩ => ⟨by simp [deep, deeps, AH.get], by simp [PV.idIn, idInL]⟩
end Ax
end Go.Proofs.YtdojdfminchlaaaGreatDoor
/-
  Wrong words, letters on the board, whether a play touches, its code, of the impl package.
  Conditions: none.
-/
namespace Go.Proofs.YtdojdfminchlaaaGreatDoor
namespace Ax
set_option maxRecDepth 100000
set_option maxHeartbeats 2000000
/-- The closure of wrongWords: it keeps the lexicon's place. -/
def aCl : Arg (List (List UInt8)) := ⟨fun | .fn g [.rptr [.rsl [.s] ws] 0] => if Nat.beq g 157 then some ws else none | _ => none, fun ws => .fn 157 [.rptr [.rsl [.s] ws] 0], fun x a h => by
  split at h
  · split at h
    · rename_i g _ hg
      cases h
      rw [Nat.eq_of_beq_eq_true hg]
    · cases h
  · cases h⟩
structure LxP (ws : List Str) : Prop where
  inc : incB ws = true
  len : (ws.length : Int) ≤ 1073741824
def sp_i_wrongWords_1 (p : Pr) : FSpec := fsp (ac aS (a1 (aP aLex))) (fun (s, ws) => LxP ws) (fun (s, ws) => .b (!hasB ws s))
theorem ok_i_wrongWords_1 : FOk Tryz.prog 157 (sp_i_wrongWords_1 std) := by
  refine FOk.go (c := cx std [(158, sp_i_Lexicon_has std)] [] 0) (cx_ok (.cons ok_i_Lexicon_has .nil) .nil) mixed Tryz.func157 rfl rfl rfl (by kernel_rfl) ?_
  rintro ⟨s, ws⟩ hp
  dsimp only at hp
  refine ⟨rfl, ?_⟩
  unfold sp_i_Lexicon_has
  generalize hP : std = p
  generalize hB0 : hasB = B0
  generalize hB1 : incB = B1
  cbv
  repeat' first
    | (refine fun (_ : Unit) => ?_; cbv)
    | (refine And.intro (fun h => ?_) (fun h => ?_) <;> cbv)
    | (refine And.intro ?_ ?_)
    | (refine Or.inl (fun (_ : Unit) => ?_); cbv)
  all_goals subst hP hB0 hB1
  all_goals try first
    | exact True.intro
    | with_reducible assumption
    | with_reducible exact byte_in
    | with_reducible exact hp.1
    | with_reducible exact hp.2
    | with_reducible exact hp.2.1
    | with_reducible exact hp.2.2
    | (simp [std] at * <;> lia)
    | rfl
  · exact hp.len
theorem wrong_le (ws xs : List (List UInt8)) : (wrongS ws xs).length ≤ xs.length := List.length_filter_le _ _
def sp_i_selected_string__o (p : Pr) : FSpec := fsp (ac aW (a1 aCl)) (fun (xs, ws) => LxP ws ∧ p.ltM (p.len xs)) (fun (xs, ws) => .osl 0) (fun (xs, ws) => [(0, .own [.s] (wrongS ws xs) 9)])
theorem ok_i_selected_string__o : FOk Tryz.prog 156 (sp_i_selected_string__o std) := by
  refine FOk.go (c := cx std [(157, sp_i_wrongWords_1 std)] [] 0) (cx_ok (.cons ok_i_wrongWords_1 .nil) .nil) mixed Tryz.func156 rfl rfl rfl (by kernel_rfl) ?_
  rintro ⟨xs, ws⟩ hp
  dsimp only at hp
  refine ⟨rfl, ?_⟩
  unfold sp_i_wrongWords_1
  obtain ⟨H, hH⟩ : ∃ H : Hd (Int × List (List UInt8)), H = ⟨fun (k, L) => 0 ≤ k ∧ k ≤ xs.length ∧ L = wrongS ws (xs.take k.toNat), fun (k, L) => (xs.length - k).toNat, (· < ·)⟩ := ⟨_, rfl⟩
  have hl : ∀ m n, H.lt m n → m < n := by subst hH; exact fun _ _ h => h
  generalize hP : std = p
  generalize hB0 : wrongS = B0
  generalize hB1 : hasB = B1
  cbv
  repeat' first
    | (refine fun (_ : Unit) => ?_; cbv)
    | (refine Or.inr ⟨12, [], [.s 11 (.i .i64), .o 0 [.s]], [.s 5], [], H, rfl, hl, ?_, fun ((k, L) : Int × List (List UInt8)) hk => ?_⟩ <;> cbv)
    | (refine And.intro (fun h => ?_) (fun h => ?_) <;> cbv)
    | (refine And.intro ?_ ?_)
  all_goals subst hP hB0 hB1 hH
  all_goals clear hl
  all_goals try dsimp only at hk
  all_goals try dsimp only
  all_goals try first
    | exact True.intro
    | with_reducible assumption
    | with_reducible exact byte_in
    | with_reducible exact hp.1
    | with_reducible exact hp.2
    | with_reducible exact hp.2.1
    | with_reducible exact hp.2.2
    | (simp [std] at * <;> lia)
    | rfl
  · exact ⟨Int.le_refl 0, Int.natCast_nonneg _, rfl⟩
  all_goals obtain ⟨q0, q1, rfl⟩ := hk
  all_goals have h2 := wrong_le ws (xs.take k.toNat)
  all_goals rw [List.length_take] at h2
  all_goals have hl := hp.2
  all_goals try (have h1 : k < xs.length := lt_of (by assumption))
  · show ((wrongS ws (xs.take k.toNat)).length : Int) + 1 ≤ 1099511627776
    have : (xs.length : Int) ≤ 1099511627776 := hl
    omega
  · refine ⟨by show 0 ≤ k + 1; omega, by show k + 1 ≤ (xs.length : Int); omega, ?_⟩
    have h6 : (!hasB ws (xs.getD k.toNat [])) = true := by assumption
    show wrongS ws (xs.take k.toNat) ++ [xs.getD k.toNat []] = wrongS ws (xs.take (k + 1).toNat)
    unfold wrongS
    rw [filt_step q0 h1, if_pos h6]
  · refine ⟨by show 0 ≤ k + 1; omega, by show k + 1 ≤ (xs.length : Int); omega, ?_⟩
    have h6 : (!hasB ws (xs.getD k.toNat [])) = false := by assumption
    show wrongS ws (xs.take k.toNat) = wrongS ws (xs.take (k + 1).toNat)
    unfold wrongS
    rw [filt_step q0 h1, h6]; simp
  · rw [tk_all (ge_of (by assumption))]
def sp_i_wrongWords_o (p : Pr) : FSpec := fsp (ac (aA aBd) (ac (aA aLex) (a1 (aA aPl)))) (fun (b, ws, q) => VP b q ∧ LxP ws) (fun (b, ws, q) => .osl 0) (fun (b, ws, q) => [(0, .own [.s] (wrongS ws (wordsI b q)) 9)])
theorem ok_i_wrongWords_o : FOk Tryz.prog 99 (sp_i_wrongWords_o std) := by
  refine FOk.go (c := cx std [(98, sp_i_wordsFormed std), (156, sp_i_selected_string__o std)] [] 0) (cx_ok (.cons ok_i_wordsFormed (.cons ok_i_selected_string__o .nil)) .nil) mixed Tryz.func99 rfl rfl rfl (by kernel_rfl) ?_
  rintro ⟨b, ws, q⟩ hp
  dsimp only at hp
  refine ⟨rfl, ?_⟩
  unfold sp_i_wordsFormed sp_i_selected_string__o
  generalize hP : std = p
  generalize hB0 : wrongS = B0
  generalize hB1 : wordsI = B1
  cbv
  repeat' first
    | (refine fun (_ : Unit) => ?_; cbv)
    | (refine And.intro (fun h => ?_) (fun h => ?_) <;> cbv)
    | (refine And.intro ?_ ?_)
    | (refine Or.inl (fun (_ : Unit) => ?_); cbv)
  all_goals subst hP hB0 hB1
  all_goals try first
    | exact True.intro
    | with_reducible assumption
    | with_reducible exact byte_in
    | with_reducible exact hp.1
    | with_reducible exact hp.2
    | with_reducible exact hp.2.1
    | with_reducible exact hp.2.2
    | (simp [std] at * <;> lia)
    | rfl
  all_goals simp only [eta_bd, eta_pl] at *
  · have := words_len hp.1
    show ((wordsI b q).length : Int) ≤ _
    omega
def sp_i_Board_lettersOn (p : Pr) : FSpec := fsp (a1 (aA aBd)) (fun b => b.Fit) (fun b => .s (lettersS b))
theorem ok_i_Board_lettersOn : FOk Tryz.prog 199 (sp_i_Board_lettersOn std) := by
  refine FOk.go (c := cx std [(216, sp_replace std)] [] 0) (cx_ok (.cons ok_replace .nil) .nil) mixed Tryz.func199 rfl rfl rfl (by kernel_rfl) ?_
  rintro b hp
  refine ⟨rfl, ?_⟩
  unfold sp_replace
  generalize hP : std = p
  generalize hB0 : lettersS = B0
  generalize hB1 : replS = B1
  cbv
  repeat' first
    | (refine fun (_ : Unit) => ?_; cbv)
    | (refine And.intro (fun h => ?_) (fun h => ?_) <;> cbv)
    | (refine And.intro ?_ ?_)
    | (refine Or.inl (fun (_ : Unit) => ?_); cbv)
  all_goals subst hP hB0 hB1
  all_goals try first
    | exact True.intro
    | with_reducible assumption
    | with_reducible exact byte_in
    | with_reducible exact hp.1
    | with_reducible exact hp.2
    | with_reducible exact hp.2.1
    | with_reducible exact hp.2.2
    | (simp [std] at * <;> lia)
    | rfl
  · show (b.cells.length : Int) ≤ 1073741824
    have h1 := hp.cells; have h2 := hp.lo; have h3 := hp.hi
    have h4 : b.size * b.size ≤ 15 * b.size := Int.mul_le_mul_of_nonneg_right h3 (by omega)
    omega
  · exact replaceAll_dots b.cells
def emptyB (b : Bd) : Bool := (lettersS b).isEmpty
def sp_i_Board_blank (p : Pr) : FSpec := fsp (a1 (aA aBd)) (fun b => b.Fit) (fun b => .b (emptyB b))
theorem ok_i_Board_blank : FOk Tryz.prog 153 (sp_i_Board_blank std) := by
  refine FOk.go (c := cx std [(199, sp_i_Board_lettersOn std)] [] 0) (cx_ok (.cons ok_i_Board_lettersOn .nil) .nil) mixed Tryz.func153 rfl rfl rfl (by kernel_rfl) ?_
  rintro b hp
  refine ⟨rfl, ?_⟩
  unfold sp_i_Board_lettersOn
  generalize hP : std = p
  generalize hB0 : lettersS = B0
  generalize hB1 : emptyB = B1
  cbv
  repeat' first
    | (refine fun (_ : Unit) => ?_; cbv)
    | (refine And.intro (fun h => ?_) (fun h => ?_) <;> cbv)
    | (refine And.intro ?_ ?_)
    | (refine Or.inl (fun (_ : Unit) => ?_); cbv)
  all_goals subst hP hB0 hB1
  all_goals try first
    | exact True.intro
    | with_reducible assumption
    | with_reducible exact byte_in
    | with_reducible exact hp.1
    | with_reducible exact hp.2
    | with_reducible exact hp.2.1
    | with_reducible exact hp.2.2
    | (simp [std] at * <;> lia)
    | rfl
  · show ((lettersS b) == []) = emptyB b
    unfold emptyB
    cases lettersS b <;> rfl
theorem tp_stp {b : Bd} {q : Pl} (h : VP b q) : StP (tilesP (placedI b q)) := by
  refine ⟨placed_tiles b q, ?_⟩
  have h1 := counts_ct ((placedI b q).map blankC)
  have h2 : ((placedI b q).map blankC).length ≤ 12 := by
    have hn := newTo_length b q q.word.length
    have hw := h.hi
    rw [List.length_map]
    unfold placedI newL
    rw [List.length_map]; omega
  have h3 := pileTo_bd (c := countsL ((placedI b q).map blankC)) (m := 12) (fun j => by have := h1.hi j; omega) 27
  show (pileTo (countsL ((placedI b q).map blankC)) 27).length ≤ _
  omega
end Ax
end Go.Proofs.YtdojdfminchlaaaGreatDoor
/-
  Scores of letters, of words, of plays of the impl package.
  Conditions: none.
-/
namespace Go.Proofs.YtdojdfminchlaaaGreatDoor
open Go.RowKit
set_option maxHeartbeats 2000000
set_option maxRecDepth 100000

/-- The factors of letters: a map of functions. -/
def facF2 : Value := .func (.func 226) #[] #[]
def facF3 : Value := .func (.func 227) #[] #[]
def facO : Obj := .map #[⟨.int .u8 50, facF2, 0⟩, ⟨.int .u8 51, facF3, 1⟩] 2
theorem fac2_any (x : Int) (w : World) (h0 : 0 ≤ x) (h1 : x ≤ 20) :
    Calls Tryz.prog 226 #[.int .i64 x] w fun e w' => e = .returned (.int .i64 (2 * x)) ∧ w = w' := by
  go_enter Tryz.func226, Tryz.ntmps226
  go_wp2_with (fail)
  go_ret
  exact ⟨rfl, rfl⟩
theorem fac3_any (x : Int) (w : World) (h0 : 0 ≤ x) (h1 : x ≤ 20) :
    Calls Tryz.prog 227 #[.int .i64 x] w fun e w' => e = .returned (.int .i64 (3 * x)) ∧ w = w' := by
  go_enter Tryz.func227, Tryz.ntmps227
  go_wp2_with (fail)
  go_ret
  exact ⟨rfl, rfl⟩
theorem alloc_set (w : World) (o o' : Obj) : ({ w.alloc o with heap := (w.alloc o).heap.setIfInBounds w.heap.size o' } : World) = w.alloc o' := by
  have e : (w.alloc o).heap.setIfInBounds w.heap.size o' = (w.alloc o').heap := by
    show (w.heap.push o).setIfInBounds w.heap.size o' = w.heap.push o'
    apply Array.ext
    · simp
    · intro i h1 h2
      rw [Array.getElem_setIfInBounds (by simpa using h1), Array.getElem_push, Array.getElem_push]
      simp at h1 h2
      split <;> split <;> first | rfl | omega
  rw [e]
  rfl
theorem run_ins (w : World) (es : Array MapEntry) (clock : Nat) (k : Int) (v : Value) (hn : Instr.findNow (.int .u8) (.int .u8 k) es.toList 0 = some none) :
    (Instr.mapUpdate 220 (.map (some w.heap.size)) (.int .u8 k) v).run Tryz.prog (w.alloc (.map es clock)) = .ok () (w.alloc (.map (es.push ⟨.int .u8 k, v, clock⟩) (clock + 1))) := by
  have hg : (w.alloc (.map es clock)).heap[w.heap.size]? = some (.map es clock) := (MapKept.heap_alloc w _).1
  have hm := Tryz.underlying220
  have hd := Tryz.underlying5
  have hk : MapKept.IsKey (.int .u8) (.int .u8 k) := rfl
  simp [Instr.mapUpdate, run_underlying hm, MapKept.run_getObj_map hg, MapKept.run_checkKey hd hk, MapKept.run_findKey hd hn, MapKept.run_setObj_map _ hg, Result.andThen]
  exact alloc_set w _ _
theorem letterFactors_any (w : World) :
    Calls Tryz.prog 207 #[] w fun e w' => e = .returned (.map (some w.heap.size)) ∧ w' = w.alloc facO := by
  have m0 := run_makeMap (P := Tryz.prog) 220 w
  have m1 := run_ins w #[] 0 50 facF2 rfl
  have m2 := run_ins w #[⟨.int .u8 50, facF2, 0⟩] 1 51 facF3 rfl
  simp only [facF2, facF3] at m1 m2
  go_enter Tryz.func207, Tryz.ntmps207
  go_wp2_with (fail)
  go_ret
  exact ⟨rfl, rfl⟩
theorem run_look (w : World) (g : Nat) (k : Int) (i : Nat) (v : Value) (hg : w.heap[g]? = some facO) (hn : Instr.findNow (.int .u8) (.int .u8 k) [⟨.int .u8 50, facF2, 0⟩, ⟨.int .u8 51, facF3, 1⟩] 0 = some (some (i, v))) :
    (Instr.lookup 220 (.map (some g)) (.int .u8 k) true).run Tryz.prog w = .ok (.tuple #[v, .bool true]) w := by
  have hm := Tryz.underlying220
  have hd := Tryz.underlying5
  have hk : MapKept.IsKey (.int .u8) (.int .u8 k) := rfl
  simp [Instr.lookup, run_underlying hm, MapKept.run_getObj_map hg, MapKept.run_checkKey hd hk, MapKept.run_findKey hd hn, Result.andThen]
theorem run_look0 (w : World) (g : Nat) (k : Int) (hg : w.heap[g]? = some facO) (hn : Instr.findNow (.int .u8) (.int .u8 k) [⟨.int .u8 50, facF2, 0⟩, ⟨.int .u8 51, facF3, 1⟩] 0 = some none) :
    (Instr.lookup 220 (.map (some g)) (.int .u8 k) true).run Tryz.prog w = .ok (.tuple #[.nilFunc, .bool false]) w := by
  have hm := Tryz.underlying220
  have hd := Tryz.underlying5
  have hk : MapKept.IsKey (.int .u8) (.int .u8 k) := rfl
  have hz : (zeroValue 176).run Tryz.prog w = .ok .nilFunc w := rfl
  simp [Instr.lookup, run_underlying hm, MapKept.run_getObj_map hg, MapKept.run_checkKey hd hk, MapKept.run_findKey hd hn, Result.andThen, hz]
theorem letterScore_k (x0 x1 x2 x3 : Value) (l p : UInt8) (V : Int) (v0 : 0 ≤ V) (v1 : V ≤ 20) (w : World) (kv : ∀ W, Below w.heap.size w W → Calls Tryz.prog 164 #[.agg #[x0, x1, x2, x3], bv l] W fun e w' => e = .returned (.int .i64 V) ∧ Below W.heap.size W w') :
    Calls Tryz.prog 163 #[.agg #[x0, x1, x2, x3], bv l, bv p] w fun e w' => e = .returned (.int .i64 (ltF p * V)) ∧ Below w.heap.size w w' := by
  have hbW := (Below.refl w.heap.size w).alloc (Nat.le_refl _) (.cells #[x0, x1, x2, x3] 40)
  have hB := Blk.new w 40 #[x0, x1, x2, x3]
  obtain ⟨W, hW⟩ : ∃ W, W = w.alloc (.cells #[x0, x1, x2, x3] 40) := ⟨_, rfl⟩
  rw [← hW] at hbW hB
  have kvW := kv W hbW
  clear kv
  have d0 : W.cell? ⟨w.heap.size, 0, none⟩ = some x0 := hB.cell 0
  have d1 : W.cell? ⟨w.heap.size, 1, none⟩ = some x1 := hB.cell 1
  have d2 : W.cell? ⟨w.heap.size, 2, none⟩ = some x2 := hB.cell 2
  have d3 : W.cell? ⟨w.heap.size, 3, none⟩ = some x3 := hB.cell 3
  have hlk : ∀ w1 : World, (w1.alloc facO).heap[w1.heap.size]? = some facO := fun w1 => (MapKept.heap_alloc w1 _).1
  by_cases h2 : p = 50
  · subst h2
    have hres : ltF 50 * V = 2 * V := rfl
    rw [hres]
    have hlk : ∀ w1 : World, (Instr.lookup 220 (.map (some w1.heap.size)) (bv 50) true).run Tryz.prog (w1.alloc facO) = .ok (.tuple #[facF2, .bool true]) (w1.alloc facO) := fun w1 => run_look (w1.alloc facO) w1.heap.size 50 0 facF2 (hlk w1) rfl
    simp only [facF2] at hlk
    go_enter Tryz.func163, Tryz.ntmps163
    go_wp2_with (first
      | (go_at_call 164; rw [← hW]; refine kvW.mono ?_; rintro e w1 ⟨rfl, hb1⟩)
      | (go_at_call 207; refine (letterFactors_any _).mono ?_; rintro e w2 ⟨rfl, rfl⟩; have hlk := hlk w1)
      | (go_at_call 226; refine (fac2_any V _ v0 v1).mono ?_; rintro e w3 ⟨rfl, rfl⟩))
    go_ret
    exact ⟨rfl, hbW.trans ((hb1.alloc hb1.size _).mono hbW.size)⟩
  · by_cases h3 : p = 51
    · subst h3
      have hres : ltF 51 * V = 3 * V := rfl
      rw [hres]
      have hlk : ∀ w1 : World, (Instr.lookup 220 (.map (some w1.heap.size)) (bv 51) true).run Tryz.prog (w1.alloc facO) = .ok (.tuple #[facF3, .bool true]) (w1.alloc facO) := fun w1 => run_look (w1.alloc facO) w1.heap.size 51 1 facF3 (hlk w1) rfl
      simp only [facF3] at hlk
      go_enter Tryz.func163, Tryz.ntmps163
      go_wp2_with (first
        | (go_at_call 164; rw [← hW]; refine kvW.mono ?_; rintro e w1 ⟨rfl, hb1⟩)
        | (go_at_call 207; refine (letterFactors_any _).mono ?_; rintro e w2 ⟨rfl, rfl⟩; have hlk := hlk w1)
        | (go_at_call 227; refine (fac3_any V _ v0 v1).mono ?_; rintro e w3 ⟨rfl, rfl⟩))
      go_ret
      exact ⟨rfl, hbW.trans ((hb1.alloc hb1.size _).mono hbW.size)⟩
    · have hres : ltF p * V = V := by
        have e2 : (p == 50) = false := by simpa using h2
        have e3 : (p == 51) = false := by simpa using h3
        unfold ltF
        rw [e2, e3]
        simp
      rw [hres]
      have q2 : ((p.toNat : Int) == 50) = false := by
        have : ¬ p.toNat = 50 := fun e => h2 (UInt8.toNat_inj.1 e)
        simp; omega
      have q3 : ((p.toNat : Int) == 51) = false := by
        have : ¬ p.toNat = 51 := fun e => h3 (UInt8.toNat_inj.1 e)
        simp; omega
      have hn : Instr.findNow (.int .u8) (.int .u8 (p.toNat : Int)) [⟨.int .u8 50, facF2, 0⟩, ⟨.int .u8 51, facF3, 1⟩] 0 = some none := by
        simp [Instr.findNow, Instr.sameNow, q2, q3]
      have hlk : ∀ w1 : World, (Instr.lookup 220 (.map (some w1.heap.size)) (bv p) true).run Tryz.prog (w1.alloc facO) = .ok (.tuple #[.nilFunc, .bool false]) (w1.alloc facO) := fun w1 => run_look0 (w1.alloc facO) w1.heap.size (p.toNat : Int) (hlk w1) hn
      clear hn q2 q3
      go_enter Tryz.func163, Tryz.ntmps163
      go_wp2_with (first
        | (go_at_call 164; rw [← hW]; refine kvW.mono ?_; rintro e w1 ⟨rfl, hb1⟩)
        | (go_at_call 207; refine (letterFactors_any _).mono ?_; rintro e w2 ⟨rfl, rfl⟩; have hlk := hlk w1))
      go_ret
      exact ⟨rfl, hbW.trans ((hb1.alloc hb1.size _).mono hbW.size)⟩
namespace Ax
def lscI (t : TS) (l p : Int) : Int := ltF (u8 p) * valT t (u8 l)
def sp_lsc (p : Pr) : FSpec := fsp (ac (aA aTs) (ac aC (a1 aC))) (fun (t, l, q) => p.inK .u8 l ∧ p.inK .u8 q ∧ TsOk t) (fun (t, l, q) => .i .i64 (lscI t l q))
theorem ok_lsc : FOk Tryz.prog 163 (sp_lsc std) := by
  refine FOk.of_calls Tryz.func163 rfl rfl fun ⟨t, l, q⟩ hp w e vals hz hl => ?_
  obtain ⟨hl8, hq8, ht⟩ : std.inK .u8 l ∧ std.inK .u8 q ∧ TsOk t := hp
  obtain ⟨u, v, x, hv, h1, h2, h3⟩ := Rs3 hl
  rw [arr_of hv]
  have h2' : v = bv (u8 l) := by unfold R at h2; rw [h2]; unfold bv; rw [u8_nat hl8]
  have h3' : x = bv (u8 q) := by unfold R at h3; rw [h3]; unfold bv; rw [u8_nat hq8]
  have h1' := h1
  change R w e (.agg (tsK t (.rsl [.i .i64] t.values) (.rsl [.i .i64] t.counts))) u at h1'
  unfold R at h1'
  obtain ⟨vs, hu, h4⟩ := h1'
  obtain ⟨x0, x1, x2, x3, hvs⟩ : ∃ x0 x1 x2 x3, vs = #[x0, x1, x2, x3] := by
    have h5 := Rs_length h4
    match hvs : vs.toList, h5 with
    | [a, b, c, d], _ => exact ⟨a, b, c, d, arr_of hvs⟩
  subst hvs hu
  have kv : ∀ W, Below w.heap.size w W → Calls Tryz.prog 164 #[.agg #[x0, x1, x2, x3], bv (u8 l)] W fun en w' => en = .returned (.int .i64 (valT t (u8 l))) ∧ Below W.heap.size W w' := fun W hW => by
    have hs : Same e.fz w W := fun b hb => hW.block b (hz.lt b hb)
    have hzW : FzW W e.fz := ⟨fun b hb => Nat.lt_of_lt_of_le (hz.lt b hb) hW.size, hz.gl.chg (M := fun _ => False) (Chg.of_below hW) fun b hb => ⟨hz.lt b hb, id⟩⟩
    have hr := ok_i_valueOf.run [.agg (tsK t (.rsl [.i .i64] t.values) (.rsl [.i .i64] t.counts)), .i .u8 l] ⟨[std.inK .u8 l ∧ TsOk t], .i .i64 (valT t (u8 l)), []⟩ rfl (fun p hp => by rw [List.mem_singleton.1 hp]; exact ⟨hl8, ht⟩) W e #[.agg #[x0, x1, x2, x3], bv (u8 l)] hzW (by
      have := Rs_mono hs (.refl e) [.agg (tsK t (.rsl [.i .i64] t.values) (.rsl [.i .i64] t.counts)), .i .u8 l] [.agg #[x0, x1, x2, x3], v] (by unfold Rs; exact ⟨_, _, rfl, h1, by unfold Rs; exact ⟨_, _, rfl, h2, by unfold Rs; rfl⟩⟩)
      rw [h2'] at this
      exact this)
    refine hr.mono ?_
    rintro en w' ⟨y, e', rfl, hP⟩
    have hy : y = .int .i64 (valT t (u8 l)) := by have := hP.val; unfold R at this; exact this
    subst hy
    exact ⟨rfl, ⟨hP.chg.os, hP.chg.tape, hP.chg.output, hP.chg.size, fun b hb => hP.chg.block b hb fun ⟨k, hk, _⟩ => hk.elim⟩⟩
  rw [h2', h3']
  refine (letterScore_k x0 x1 x2 x3 (u8 l) (u8 q) (valT t (u8 l)) (ht.lo _) (ht.hi _) w kv).mono ?_
  rintro en w' ⟨rfl, hb⟩
  exact ⟨_, rfl, fun w e => by unfold R; rfl, hb⟩
end Ax
end Go.Proofs.YtdojdfminchlaaaGreatDoor
