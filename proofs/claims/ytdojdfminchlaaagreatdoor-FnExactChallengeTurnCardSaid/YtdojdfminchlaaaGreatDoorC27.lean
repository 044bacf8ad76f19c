/-
  The laws package: whether marks are held by rows, tile sets, games; The laws package: verdicts: the same, marked, held; Challenges: what is decided about a play, what follows; Challenges: facts of a game whose last play can be challenged.
  Conditions: as each part below says.
-/
import Derived.Test.YtdojdfminchlaaaGreatDoorC26
set_option linter.unusedSimpArgs false
set_option linter.unusedVariables false
/-
  The laws package: whether marks are held by rows, tile sets, games.
  Conditions: none.
-/
namespace Go.Proofs.YtdojdfminchlaaaGreatDoor
namespace Ax
set_option maxRecDepth 100000
set_option maxHeartbeats 2000000
def heldN : List Int → Int → Int
  | [], k => k
  | x :: r, k => if x = k then heldN r (k + 1) else -1
def heldW : List (List UInt8) → Int → Int
  | [], k => k
  | x :: r, k => if x = markI k then heldW r (k + 1) else -1
def heldTs (t : TS) (k : Int) : Int := if heldN t.values k < 0 then -1 else heldN t.counts (heldN t.values k)
def heldSu (u : Su) (k : Int) : Int := if heldTs u.ts k < 0 then -1 else heldW u.lex (heldTs u.ts k)
def heldG1 (g : Gm) (k : Int) : Int := if heldSu (gSu g) k < 0 then -1 else heldW g.racks (heldSu (gSu g) k)
def heldG2 (g : Gm) (k : Int) : Int := if heldG1 g k < 0 then -1 else heldN g.scores (heldG1 g k)
def heldGm (g : Gm) (k : Int) : Int := if heldG2 g k < 0 then -1 else heldN g.clocks (heldG2 g k)
theorem heldN_bd : ∀ (l : List Int) (k : Int), 0 ≤ k → -1 ≤ heldN l k ∧ heldN l k ≤ k + l.length
  | [], k, h => by simp [heldN]; omega
  | x :: r, k, h => by
    have := heldN_bd r (k + 1) (by omega)
    rw [heldN, List.length_cons]
    split <;> omega
theorem heldW_bd : ∀ (l : List (List UInt8)) (k : Int), 0 ≤ k → -1 ≤ heldW l k ∧ heldW l k ≤ k + l.length
  | [], k, h => by simp [heldW]; omega
  | x :: r, k, h => by
    have := heldW_bd r (k + 1) (by omega)
    rw [heldW, List.length_cons]
    split <;> omega
theorem marksN_cons (k : Int) (n : Nat) : marksN k (n + 1) = k :: marksN (k + 1) n := by
  unfold marksN
  rw [List.range_succ_eq_map, List.map_cons, List.map_map]
  congr 1
  · show k + ((0 : Nat) : Int) = k; omega
  · refine List.map_congr_left fun i _ => ?_
    show k + ((i + 1 : Nat) : Int) = k + 1 + i
    omega
theorem marksW_cons (k : Int) (n : Nat) : marksW k (n + 1) = markI k :: marksW (k + 1) n := by
  unfold marksW
  rw [List.range_succ_eq_map, List.map_cons, List.map_map]
  congr 1
  · show markI (k + ((0 : Nat) : Int)) = markI k
    congr 1; omega
  · refine List.map_congr_left fun i _ => ?_
    show markI (k + ((i + 1 : Nat) : Int)) = markI (k + 1 + i)
    congr 1; omega
theorem held_marksN : ∀ (n : Nat) (k : Int), heldN (marksN k n) k = k + n
  | 0, k => by simp [marksN, heldN]
  | n + 1, k => by rw [marksN_cons, heldN, if_pos rfl, held_marksN n]; omega
theorem held_marksW : ∀ (n : Nat) (k : Int), heldW (marksW k n) k = k + n
  | 0, k => by simp [marksW, heldW]
  | n + 1, k => by rw [marksW_cons, heldW, if_pos rfl, held_marksW n]; omega
theorem heldN_mark (k : Int) (l : List Int) : heldN (markN k l) k = endN k l := held_marksN _ _
theorem heldW_mark (k : Int) (l : List (List UInt8)) : heldW (markW k l) k = endW k l := held_marksW _ _
theorem endN_nn {k : Int} (h : 0 ≤ k) (l : List Int) : 0 ≤ endN k l := by unfold endN; omega
theorem endW_nn {k : Int} (h : 0 ≤ k) (l : List (List UInt8)) : 0 ≤ endW k l := by unfold endW; omega
theorem held_mark {k : Int} (h : 0 ≤ k) (g : Gm) : heldGm (markGm k g) k = endGm k g ∧ 0 ≤ endGm k g := by
  have a1 := endN_nn h g.ts.values
  have a2 := endN_nn a1 g.ts.counts
  have a3 := endW_nn a2 g.lex
  have a4 := endW_nn a3 g.racks
  have a5 := endN_nn a4 g.scores
  have a6 := endN_nn a5 g.clocks
  have e1 : heldTs (gSu (markGm k g)).ts k = endTs k g.ts := by
    show (if heldN (markN k g.ts.values) k < 0 then -1 else heldN (markN (endN k g.ts.values) g.ts.counts) (heldN (markN k g.ts.values) k)) = _
    rw [heldN_mark, if_neg (by omega), heldN_mark]; rfl
  have e2 : heldSu (gSu (markGm k g)) k = endSu k (gSu g) := by
    unfold heldSu
    rw [e1]
    show (if endTs k g.ts < 0 then -1 else heldW (markW (endTs k g.ts) g.lex) (endTs k g.ts)) = _
    rw [heldW_mark, if_neg (by show ¬ endN (endN k g.ts.values) g.ts.counts < 0; omega)]; rfl
  have e3 : heldG1 (markGm k g) k = endG1 k g := by
    unfold heldG1
    rw [e2]
    show (if endSu k (gSu g) < 0 then -1 else heldW (markW (endSu k (gSu g)) g.racks) (endSu k (gSu g))) = _
    rw [heldW_mark, if_neg (by show ¬ endW (endN (endN k g.ts.values) g.ts.counts) g.lex < 0; omega)]; rfl
  have e4 : heldG2 (markGm k g) k = endG2 k g := by
    unfold heldG2
    rw [e3]
    show (if endG1 k g < 0 then -1 else heldN (markN (endG1 k g) g.scores) (endG1 k g)) = _
    rw [heldN_mark, if_neg (by show ¬ endW (endW (endN (endN k g.ts.values) g.ts.counts) g.lex) g.racks < 0; omega)]; rfl
  refine ⟨?_, a6⟩
  unfold heldGm
  rw [e4]
  show (if endG2 k g < 0 then -1 else heldN (markN (endG2 k g) g.clocks) (endG2 k g)) = _
  rw [heldN_mark, if_neg (by show ¬ endN (endW (endW (endN (endN k g.ts.values) g.ts.counts) g.lex) g.racks) g.scores < 0; omega)]; rfl
theorem held_m1 {x : Int} (h : -1 ≤ x) (h2 : std.ltI x 0 = true) : -1 = x := by have := lt_of h2; omega
theorem heldTs_bd {t : TS} {k : Int} (h : TsN t) (h0 : 0 ≤ k) : -1 ≤ heldTs t k ∧ heldTs t k ≤ k + 2147483648 := by
  have := h.v; have := h.c; have := heldN_bd t.values k h0
  unfold heldTs
  split
  · omega
  · have := heldN_bd t.counts (heldN t.values k) (by omega); omega
theorem heldSu_bd {u : Su} {k : Int} (h : SuN u) (h0 : 0 ≤ k) : -1 ≤ heldSu u k ∧ heldSu u k ≤ k + 3221225472 := by
  have := h.l; have := heldTs_bd h.ts h0
  unfold heldSu
  split
  · omega
  · have := heldW_bd u.lex (heldTs u.ts k) (by omega); omega
section
variable {g : Gm} {k : Int}
theorem h_n1 (h : heldSu (gSu g) k < 0) : heldG1 g k = -1 := if_pos h
theorem h_y1 (h : 0 ≤ heldSu (gSu g) k) : heldG1 g k = heldW g.racks (heldSu (gSu g) k) := if_neg (by omega)
theorem h_n2 (h : heldG1 g k = -1) : heldG2 g k = -1 := if_pos (by omega)
theorem h_y2 (h : 0 ≤ heldG1 g k) : heldG2 g k = heldN g.scores (heldG1 g k) := if_neg (by omega)
theorem h_n (h : heldG2 g k = -1) : heldGm g k = -1 := if_pos (by omega)
theorem h_y (h : 0 ≤ heldG2 g k) : heldGm g k = heldN g.clocks (heldG2 g k) := if_neg (by omega)
end
def fromN (l : List Int) (i k : Int) : Int := heldN (l.drop i.toNat) k
def fromW (l : List (List UInt8)) (i k : Int) : Int := heldW (l.drop i.toNat) k
def sp_l_heldInt64S (p : Pr) : FSpec := fsp (ac aN (a1 aI)) (fun (l, k) => KnP k l) (fun (l, k) => .i .i64 (heldN l k))
theorem ok_l_heldInt64S : FOk Tryz.prog 66 (sp_l_heldInt64S std) := by
  refine FOk.go (c := cx std [] [] 0) (cx_ok .nil .nil) mixed Tryz.func66 rfl rfl rfl (by kernel_rfl) ?_
  rintro ⟨l, k⟩ hp
  dsimp only at hp
  refine ⟨rfl, ?_⟩
  obtain ⟨H, hH⟩ : ∃ H : Hd (Int × Int), H = ⟨fun (m, i) => 0 ≤ i ∧ i ≤ l.length ∧ m = k + i ∧ heldN l k = fromN l i m, fun (m, i) => (l.length - i).toNat, (· < ·)⟩ := ⟨_, rfl⟩
  have hl : ∀ m n, H.lt m n → m < n := by subst hH; exact fun _ _ h => h
  generalize hP : std = p
  generalize hB0 : heldN = B0
  generalize hB1 : fromN = B1
  cbv
  repeat' first
    | (refine fun (_ : Unit) => ?_; cbv)
    | (refine Or.inr ⟨6, [], [.s 1 (.i .i64), .s 5 (.i .i64)], [], [], H, rfl, hl, ?_, fun ((m, i) : Int × Int) hk => ?_⟩ <;> cbv)
    | (refine And.intro (fun h => ?_) (fun h => ?_) <;> cbv)
    | (refine And.intro ?_ ?_)
  all_goals subst hP hB0 hB1 hH
  all_goals clear hl
  all_goals try dsimp only at hk
  all_goals try dsimp only
  all_goals try first
    | exact True.intro
    | with_reducible assumption
    | with_reducible exact byte_in
    | with_reducible exact hp.1
    | with_reducible exact hp.2
    | with_reducible exact hp.2.1
    | with_reducible exact hp.2.2
    | (simp [std] at * <;> lia)
    | rfl
  · exact ⟨Int.le_refl 0, Int.natCast_nonneg _, by omega, rfl⟩
  all_goals obtain ⟨q0, q1, rfl, q3⟩ := hk
  all_goals have q1 : i ≤ (l.length : Int) := q1
  all_goals have b1 := hp.lo
  all_goals have b2 := hp.hi
  all_goals have b3 := hp.n
  all_goals try (have hlt : i < (l.length : Int) := lt_of (by assumption))
  · rw [q3, fromN, dc q0 hlt 0, heldN, if_neg (beq_eq_false_iff_ne.1 (show (l.getD i.toNat 0 == k + i) = false from h))]
  · exact in64 (by show _ ≤ k + i + 1 ∧ k + i + 1 ≤ _; omega)
  · exact in64 (by show _ ≤ i + 1 ∧ i + 1 ≤ _; omega)
  · refine ⟨by show 0 ≤ i + 1; omega, by show i + 1 ≤ (l.length : Int); omega, by show k + i + 1 = k + (i + 1); omega, ?_⟩
    rw [q3]
    show fromN l i (k + i) = fromN l (i + 1) (k + i + 1)
    rw [fromN, dc q0 hlt 0, heldN, if_pos (beq_iff_eq.1 (show (l.getD i.toNat 0 == k + i) = true from h))]; rfl
  · rw [q3, fromN, dn (ge_of h)]; rfl
def sp_l_heldStringS (p : Pr) : FSpec := fsp (ac aW (a1 aI)) (fun (l, k) => KnP k l) (fun (l, k) => .i .i64 (heldW l k))
theorem ok_l_heldStringS : FOk Tryz.prog 65 (sp_l_heldStringS std) := by
  refine FOk.go (c := cx std [(118, sp_l_markText std)] [] 0) (cx_ok (.cons ok_l_markText .nil) .nil) mixed Tryz.func65 rfl rfl rfl (by kernel_rfl) ?_
  rintro ⟨l, k⟩ hp
  dsimp only at hp
  refine ⟨rfl, ?_⟩
  unfold sp_l_markText
  obtain ⟨H, hH⟩ : ∃ H : Hd (Int × Int), H = ⟨fun (m, i) => 0 ≤ i ∧ i ≤ l.length ∧ m = k + i ∧ heldW l k = fromW l i m, fun (m, i) => (l.length - i).toNat, (· < ·)⟩ := ⟨_, rfl⟩
  have hl : ∀ m n, H.lt m n → m < n := by subst hH; exact fun _ _ h => h
  generalize hP : std = p
  generalize hB0 : heldW = B0
  generalize hB1 : markI = B1
  generalize hB2 : fromW = B2
  cbv
  repeat' first
    | (refine fun (_ : Unit) => ?_; cbv)
    | (refine Or.inr ⟨6, [], [.s 1 (.i .i64), .s 5 (.i .i64)], [], [], H, rfl, hl, ?_, fun ((m, i) : Int × Int) hk => ?_⟩ <;> cbv)
    | (refine And.intro (fun h => ?_) (fun h => ?_) <;> cbv)
    | (refine And.intro ?_ ?_)
  all_goals subst hP hB0 hB1 hB2 hH
  all_goals clear hl
  all_goals try dsimp only at hk
  all_goals try dsimp only
  all_goals try first
    | exact True.intro
    | with_reducible assumption
    | with_reducible exact byte_in
    | with_reducible exact hp.1
    | with_reducible exact hp.2
    | with_reducible exact hp.2.1
    | with_reducible exact hp.2.2
    | (simp [std] at * <;> lia)
    | rfl
  · exact ⟨Int.le_refl 0, Int.natCast_nonneg _, by omega, rfl⟩
  all_goals obtain ⟨q0, q1, rfl, q3⟩ := hk
  all_goals have q1 : i ≤ (l.length : Int) := q1
  all_goals have b1 := hp.lo
  all_goals have b2 := hp.hi
  all_goals have b3 := hp.n
  all_goals try (have hlt : i < (l.length : Int) := lt_of (by assumption))
  · show 0 ≤ k + i
    omega
  · show k + i ≤ 1152921504606846976
    omega
  · rw [q3, fromW, dc q0 hlt [], heldW, if_neg (beq_eq_false_iff_ne.1 (show (l.getD i.toNat [] == markI (k + i)) = false from h))]
  · exact in64 (by show _ ≤ k + i + 1 ∧ k + i + 1 ≤ _; omega)
  · exact in64 (by show _ ≤ i + 1 ∧ i + 1 ≤ _; omega)
  · refine ⟨by show 0 ≤ i + 1; omega, by show i + 1 ≤ (l.length : Int); omega, by show k + i + 1 = k + (i + 1); omega, ?_⟩
    rw [q3]
    show fromW l i (k + i) = fromW l (i + 1) (k + i + 1)
    rw [fromW, dc q0 hlt [], heldW, if_pos (beq_iff_eq.1 (show (l.getD i.toNat [] == markI (k + i)) = true from h))]; rfl
  · rw [q3, fromW, dn (ge_of h)]; rfl
def sp_l_heldTileSet (p : Pr) : FSpec := fsp (ac (aA aTs) (a1 aI)) (fun (t, k) => KnT k t) (fun (t, k) => .i .i64 (heldTs t k))
theorem ok_l_heldTileSet : FOk Tryz.prog 119 (sp_l_heldTileSet std) := by
  refine FOk.go (c := cx std [(66, sp_l_heldInt64S std)] [] 0) (cx_ok (.cons ok_l_heldInt64S .nil) .nil) mixed Tryz.func119 rfl rfl rfl (by kernel_rfl) ?_
  rintro ⟨t, k⟩ hp
  dsimp only at hp
  refine ⟨rfl, ?_⟩
  unfold sp_l_heldInt64S
  generalize hP : std = p
  generalize hB0 : heldTs = B0
  generalize hB1 : heldN = B1
  cbv
  repeat' first
    | (refine fun (_ : Unit) => ?_; cbv)
    | (refine And.intro (fun h => ?_) (fun h => ?_) <;> cbv)
    | (refine And.intro ?_ ?_)
    | (refine Or.inl (fun (_ : Unit) => ?_); cbv)
  all_goals subst hP hB0 hB1
  all_goals try first
    | exact True.intro
    | with_reducible assumption
    | with_reducible exact byte_in
    | with_reducible exact hp.1
    | with_reducible exact hp.2
    | with_reducible exact hp.2.1
    | with_reducible exact hp.2.2
    | (simp [std] at * <;> lia)
    | rfl
  all_goals have b1 := hp.lo
  all_goals have b2 := hp.hi
  all_goals have b3 := hp.n.v
  all_goals have b5 := heldN_bd t.values k b1
  · exact ⟨b1, by omega, b3⟩
  · rw [heldTs, if_pos (lt_of h)]
  · exact ⟨ge_of h, by omega, hp.n.c⟩
  all_goals have b6 : 0 ≤ heldN t.values k := ge_of (by assumption)
  all_goals rw [heldTs, if_neg (by omega)]
  · exact held_m1 (heldN_bd _ _ b6).1 h
def sp_l_heldLexicon (p : Pr) : FSpec := fsp (ac (aA aLex) (a1 aI)) (fun (l, k) => KnP k l) (fun (l, k) => .i .i64 (heldW l k))
theorem ok_l_heldLexicon : FOk Tryz.prog 120 (sp_l_heldLexicon std) := by
  refine FOk.go (c := cx std [(65, sp_l_heldStringS std)] [] 0) (cx_ok (.cons ok_l_heldStringS .nil) .nil) mixed Tryz.func120 rfl rfl rfl (by kernel_rfl) ?_
  rintro ⟨l, k⟩ hp
  dsimp only at hp
  refine ⟨rfl, ?_⟩
  unfold sp_l_heldStringS
  generalize hP : std = p
  generalize hB0 : heldW = B0
  cbv
  repeat' first
    | (refine fun (_ : Unit) => ?_; cbv)
    | (refine And.intro (fun h => ?_) (fun h => ?_) <;> cbv)
    | (refine And.intro ?_ ?_)
    | (refine Or.inl (fun (_ : Unit) => ?_); cbv)
  all_goals subst hP hB0
  all_goals try first
    | exact True.intro
    | with_reducible assumption
    | with_reducible exact byte_in
    | with_reducible exact hp.1
    | with_reducible exact hp.2
    | with_reducible exact hp.2.1
    | with_reducible exact hp.2.2
    | (simp [std] at * <;> lia)
    | rfl
  · exact held_m1 (heldW_bd l k hp.lo).1 h
def sp_l_heldSetup (p : Pr) : FSpec := fsp (ac (aA aSu) (a1 aI)) (fun (u, k) => KnS k u) (fun (u, k) => .i .i64 (heldSu u k))
theorem ok_l_heldSetup : FOk Tryz.prog 64 (sp_l_heldSetup std) := by
  refine FOk.go (c := cx std [(119, sp_l_heldTileSet std), (120, sp_l_heldLexicon std)] [] 0) (cx_ok (.cons ok_l_heldTileSet (.cons ok_l_heldLexicon .nil)) .nil) mixed Tryz.func64 rfl rfl rfl (by kernel_rfl) ?_
  rintro ⟨u, k⟩ hp
  dsimp only at hp
  refine ⟨rfl, ?_⟩
  unfold sp_l_heldTileSet sp_l_heldLexicon
  generalize hP : std = p
  generalize hB0 : heldSu = B0
  generalize hB1 : heldTs = B1
  generalize hB2 : heldW = B2
  cbv
  repeat' first
    | (refine fun (_ : Unit) => ?_; cbv)
    | (refine And.intro (fun h => ?_) (fun h => ?_) <;> cbv)
    | (refine And.intro ?_ ?_)
    | (refine Or.inl (fun (_ : Unit) => ?_); cbv)
  all_goals subst hP hB0 hB1 hB2
  all_goals try first
    | exact True.intro
    | with_reducible assumption
    | with_reducible exact byte_in
    | with_reducible exact hp.1
    | with_reducible exact hp.2
    | with_reducible exact hp.2.1
    | with_reducible exact hp.2.2
    | (simp [std] at * <;> lia)
    | rfl
  all_goals (try simp only [eta_ts, eta_bd, eta_su] at *)
  all_goals have b1 := hp.lo
  all_goals have b2 := hp.hi
  all_goals have b5 := heldTs_bd hp.n.ts b1
  · exact ⟨b1, by omega, hp.n.ts⟩
  · rw [heldSu, if_pos (lt_of h)]
  · exact ⟨ge_of h, by omega, hp.n.l⟩
  all_goals have b6 : 0 ≤ heldTs u.ts k := ge_of (by assumption)
  all_goals rw [heldSu, if_neg (by omega)]
  · exact held_m1 (heldW_bd _ _ b6).1 h
def sp_l_heldGame (p : Pr) : FSpec := fsp (ac (aA aGm) (a1 aI)) (fun (g, k) => KnG k g) (fun (g, k) => .i .i64 (heldGm g k))
theorem ok_l_heldGame : FOk Tryz.prog 13 (sp_l_heldGame std) := by
  refine FOk.go (c := cx std [(64, sp_l_heldSetup std), (65, sp_l_heldStringS std), (66, sp_l_heldInt64S std)] [] 0) (cx_ok (.cons ok_l_heldSetup (.cons ok_l_heldStringS (.cons ok_l_heldInt64S .nil))) .nil) mixed Tryz.func13 rfl rfl rfl (by kernel_rfl) ?_
  rintro ⟨g, k⟩ hp
  dsimp only at hp
  refine ⟨rfl, ?_⟩
  unfold sp_l_heldSetup sp_l_heldStringS sp_l_heldInt64S
  generalize hP : std = p
  generalize hB0 : heldGm = B0
  generalize hB1 : heldSu = B1
  generalize hB2 : heldW = B2
  generalize hB3 : heldN = B3
  cbv
  repeat' first
    | (refine fun (_ : Unit) => ?_; cbv)
    | (refine And.intro (fun h => ?_) (fun h => ?_) <;> cbv)
    | (refine And.intro ?_ ?_)
    | (refine Or.inl (fun (_ : Unit) => ?_); cbv)
  all_goals subst hP hB0 hB1 hB2 hB3
  all_goals try first
    | exact True.intro
    | with_reducible assumption
    | with_reducible exact byte_in
    | with_reducible exact hp.1
    | with_reducible exact hp.2
    | with_reducible exact hp.2.1
    | with_reducible exact hp.2.2
    | (simp [std] at * <;> lia)
    | rfl
  all_goals (try simp only [eta_ts, eta_bd, eta_su] at *)
  all_goals have b1 := hp.lo
  all_goals have b2 := hp.hi
  all_goals have b5 := heldSu_bd hp.n.su b1
  · exact ⟨b1, by omega, hp.n.su⟩
  · exact (h_n (h_n2 (h_n1 (lt_of h)))).symm
  · exact ⟨ge_of h, by omega, hp.n.r⟩
  all_goals have b6 : 0 ≤ heldSu (gSu g) k := ge_of (by assumption)
  all_goals have b7 := heldW_bd g.racks _ b6
  all_goals have c1 := hp.n.r
  all_goals have e1 := h_y1 b6
  · exact (h_n (h_n2 (e1.trans (held_m1 b7.1 h).symm))).symm
  · exact ⟨ge_of h, by omega, hp.n.s⟩
  all_goals have b8 : 0 ≤ heldW g.racks (heldSu (gSu g) k) := ge_of (by assumption)
  all_goals have b9 := heldN_bd g.scores _ b8
  all_goals have c2 := hp.n.s
  all_goals have e2 := h_y2 (g := g) (k := k) (by rw [e1]; exact b8)
  all_goals rw [e1] at e2
  · exact (h_n (e2.trans (held_m1 b9.1 h).symm)).symm
  · exact ⟨ge_of h, by omega, hp.n.k⟩
  all_goals have d1 : 0 ≤ heldN g.scores (heldW g.racks (heldSu (gSu g) k)) := ge_of (by assumption)
  all_goals have e3 := h_y (g := g) (k := k) (by rw [e2]; exact d1)
  all_goals rw [e3, e2]
  · exact held_m1 (heldN_bd _ _ d1).1 h
end Ax
end Go.Proofs.YtdojdfminchlaaaGreatDoor
/-
  The laws package: verdicts: the same, marked, held.
  Conditions: none.
-/
namespace Go.Proofs.YtdojdfminchlaaaGreatDoor
namespace Ax
set_option maxRecDepth 100000
set_option maxHeartbeats 2000000
structure Vd where
  words : List (List UInt8)
  wrong : List (List UInt8)
  up : Bool
  pts : Int
def vdOf : List PV → Option Vd
  | [.rsl [.s] a, .rsl [.s] b, .b c, .i .i64 d] => some ⟨a, b, c, d⟩
  | _ => none
def vdK (v : Vd) (a b : PV) : List PV := [a, b, .b v.up, .i .i64 v.pts]
theorem vdOf_eq {l : List PV} {v : Vd} (h : vdOf l = some v) : l = vdK v (.rsl [.s] v.words) (.rsl [.s] v.wrong) := by
  unfold vdOf at h
  split at h
  · cases h; rfl
  · cases h
def aVd : Args Vd := ⟨vdOf, fun v => vdK v (.rsl [.s] v.words) (.rsl [.s] v.wrong), fun _ _ => vdOf_eq⟩
structure VdN (v : Vd) : Prop where
  a : (v.words.length : Int) ≤ 1073741824
  b : (v.wrong.length : Int) ≤ 1073741824
def qeVd (a b : Vd) : Bool := qeW a.words b.words && (qeW a.wrong b.wrong && (a.up == b.up && a.pts == b.pts))
theorem qeVd_r (a : Vd) : qeVd a a = true := by simp [qeVd, qeW_r]
@[simp] theorem eta_vd (v : Vd) : Vd.mk v.words v.wrong v.up v.pts = v := rfl
def sp_l_eqVerdict (p : Pr) : FSpec := fsp (ac (aA aVd) (a1 (aA aVd))) (fun (a, b) => VdN a) (fun (a, b) => .b (qeVd a b))
theorem ok_l_eqVerdict : FOk Tryz.prog 16 (sp_l_eqVerdict std) := by
  refine FOk.go (c := cx std [(58, sp_l_eqStringS std)] [] 0) (cx_ok (.cons ok_l_eqStringS .nil) .nil) mixed Tryz.func16 rfl rfl rfl (by kernel_rfl) ?_
  rintro ⟨a, b⟩ hp
  dsimp only at hp
  refine ⟨rfl, ?_⟩
  unfold sp_l_eqStringS
  generalize hP : std = p
  generalize hB0 : qeVd = B0
  generalize hB1 : qeW = B1
  cbv
  repeat' first
    | (refine fun (_ : Unit) => ?_; cbv)
    | (refine And.intro (fun h => ?_) (fun h => ?_) <;> cbv)
    | (refine And.intro ?_ ?_)
    | (refine Or.inl (fun (_ : Unit) => ?_); cbv)
  all_goals subst hP hB0 hB1
  all_goals try first
    | exact True.intro
    | with_reducible assumption
    | with_reducible exact byte_in
    | with_reducible exact hp.1
    | with_reducible exact hp.2
    | with_reducible exact hp.2.1
    | with_reducible exact hp.2.2
    | (simp [std] at * <;> lia)
    | rfl
  all_goals (try simp only [sd_eqI, sd_eqS, sd_eqB] at *)
  all_goals first
    | exact hp.a
    | exact hp.b
    | simp only [qeVd, *, Bool.true_and, Bool.false_and, Bool.and_true]
def mVd : MArgs (Vd × Int) := ⟨fun H l => match H, l with
  | [x, y], [.agg [.osl 0, .osl 1, .b c, .i .i64 d], .i .i64 k] => match hW x, hW y with
    | some (0, a), some (1, b) => some (⟨a, b, c, d⟩, k)
    | _, _ => none
  | _, _ => none, fun a => [(0, .own [.s] a.1.words 9), (1, .own [.s] a.1.wrong 9)], fun a => [.agg (vdK a.1 (.osl 0) (.osl 1)), .i .i64 a.2], fun H l a h => by
    split at h
    · split at h
      · rename_i h0 h1
        cases h
        exact ⟨by rw [hW_ok h0, hW_ok h1], rfl⟩
      · cases h
    · cases h⟩
structure KnV (k : Int) (v : Vd) : Prop where
  lo : 0 ≤ k
  hi : k ≤ 17179869184
  n : VdN v
def endVd (k : Int) (v : Vd) : Int := endW (endW k v.words) v.wrong
def markVd (k : Int) (v : Vd) : Vd := ⟨markW k v.words, markW (endW k v.words) v.wrong, v.up, v.pts⟩
def heldVd (v : Vd) (k : Int) : Int := if heldW v.words k < 0 then -1 else heldW v.wrong (heldW v.words k)
theorem heldVd_mark {k : Int} (h : 0 ≤ k) (v : Vd) : heldVd (markVd k v) k = endVd k v ∧ 0 ≤ endVd k v := by
  have a1 := endW_nn h v.words
  refine ⟨?_, endW_nn a1 v.wrong⟩
  show (if heldW (markW k v.words) k < 0 then -1 else heldW (markW (endW k v.words) v.wrong) (heldW (markW k v.words) k)) = _
  rw [heldW_mark, if_neg (by omega), heldW_mark]; rfl
def sp_l_markVerdict (p : Pr) : MSpec := msp mVd (fun (v, k) => KnV k v) (fun (v, k) => .i .i64 (endVd k v)) (fun (v, k) => [(0, .own [.s] (markW k v.words) 9), (1, .own [.s] (markW (endW k v.words) v.wrong) 9)])
theorem ok_l_markVerdict : MOk Tryz.prog 17 (sp_l_markVerdict std) := by
  refine MOk.go (c := cx std [] [(62, sp_l_markStringS std)] 2) (cx_ok .nil (.cons ok_l_markStringS .nil)) mixed Tryz.func17 rfl rfl (by kernel_rfl) ?_
  rintro ⟨v, k⟩ hp
  dsimp only at hp
  refine ⟨rfl, ?_⟩
  unfold sp_l_markStringS
  generalize hP : std = p
  generalize hB0 : endW = B0
  generalize hB1 : markW = B1
  generalize hB2 : endVd = B2
  cbv
  repeat' first
    | (refine fun (_ : Unit) => ?_; cbv)
    | (refine And.intro (fun h => ?_) (fun h => ?_) <;> cbv)
    | (refine And.intro ?_ ?_)
    | (refine Or.inl (fun (_ : Unit) => ?_); cbv)
  all_goals subst hP hB0 hB1 hB2
  all_goals try first
    | exact True.intro
    | with_reducible assumption
    | with_reducible exact byte_in
    | with_reducible exact hp.1
    | with_reducible exact hp.2
    | with_reducible exact hp.2.1
    | with_reducible exact hp.2.2
    | (simp [std] at * <;> lia)
    | rfl
  all_goals have b1 := hp.lo
  all_goals have b2 := hp.hi
  all_goals have b3 := hp.n.a
  all_goals have b4 := hp.n.b
  · exact ⟨b1, by omega, b3⟩
  · exact ⟨by show 0 ≤ k + (v.words.length : Int); omega, by show k + (v.words.length : Int) ≤ _; omega, b4⟩
def sp_l_heldVerdict (p : Pr) : FSpec := fsp (ac (aA aVd) (a1 aI)) (fun (v, k) => KnV k v) (fun (v, k) => .i .i64 (heldVd v k))
theorem ok_l_heldVerdict : FOk Tryz.prog 18 (sp_l_heldVerdict std) := by
  refine FOk.go (c := cx std [(65, sp_l_heldStringS std)] [] 0) (cx_ok (.cons ok_l_heldStringS .nil) .nil) mixed Tryz.func18 rfl rfl rfl (by kernel_rfl) ?_
  rintro ⟨v, k⟩ hp
  dsimp only at hp
  refine ⟨rfl, ?_⟩
  unfold sp_l_heldStringS
  generalize hP : std = p
  generalize hB0 : heldVd = B0
  generalize hB1 : heldW = B1
  cbv
  repeat' first
    | (refine fun (_ : Unit) => ?_; cbv)
    | (refine And.intro (fun h => ?_) (fun h => ?_) <;> cbv)
    | (refine And.intro ?_ ?_)
    | (refine Or.inl (fun (_ : Unit) => ?_); cbv)
  all_goals subst hP hB0 hB1
  all_goals try first
    | exact True.intro
    | with_reducible assumption
    | with_reducible exact byte_in
    | with_reducible exact hp.1
    | with_reducible exact hp.2
    | with_reducible exact hp.2.1
    | with_reducible exact hp.2.2
    | (simp [std] at * <;> lia)
    | rfl
  all_goals have b1 := hp.lo
  all_goals have b2 := hp.hi
  all_goals have b3 := hp.n.a
  all_goals have b5 := heldW_bd v.words k b1
  · exact ⟨b1, by omega, b3⟩
  · rw [heldVd, if_pos (lt_of h)]
  · exact ⟨ge_of h, by omega, hp.n.b⟩
  all_goals have b6 : 0 ≤ heldW v.words k := ge_of (by assumption)
  all_goals rw [heldVd, if_neg (by omega)]
  · exact held_m1 (heldW_bd _ _ b6).1 h
end Ax
end Go.Proofs.YtdojdfminchlaaaGreatDoor
/-
  Challenges: what is decided about a play, what follows.
  Conditions: none.
-/
namespace Go.Proofs.YtdojdfminchlaaaGreatDoor
namespace Ax
set_option maxRecDepth 100000
set_option maxHeartbeats 2000000
def canB (g : Gm) : Bool := !g.over && (!(g.rule == 0) && g.last.kind == 1)
def vWords (g : Gm) : List (List UInt8) := wordsL g.bef g.last.play
def vWrong (g : Gm) : List (List UInt8) := wrongL g.bef g.lex g.last.play
def vUp (g : Gm) : Bool := !(vWrong g).isEmpty
def vPts (g : Gm) : Int := if vUp g then 0 - g.last.score else if g.rule = 3 then 5 * ((vWords g).length : Int) else 0
def wBag (g : Gm) : List UInt8 := g.last.drawn ++ g.bag
def wRest (g : Gm) : List UInt8 := takeS (g.rk g.last.player) (isort g.last.drawn)
def wTil (g : Gm) : List UInt8 := tilesS (placedS (flatB g.bef g.last.play) (flatP g.last.play))
def wRack (g : Gm) : List UInt8 := isort (wRest g ++ wTil g)
def wRks (g : Gm) : List (List UInt8) := g.racks.set g.last.player.toNat (wRack g)
def wSc (g : Gm) : List Int := g.scores.set g.last.player.toNat (g.sc g.last.player - g.last.score)
def wd1 (g : Gm) : Gm := ⟨g.ts, g.lex, g.bd0, g.secs, g.rule, ⟨g.bd.size, g.bd.prem, g.last.before⟩, wBag g, wRks g, wSc g, g.clocks, g.player, g.last.zeros + 1, idleL 3 g.last.player, g.over⟩
def wEnd (g : Gm) : Bool := g.last.zeros + 1 == 6
def wSs (g : Gm) : List Int := if wEnd g then setSc (wd1 g) else wSc g
def wOv (g : Gm) : Bool := g.over || wEnd g
def wZe (g : Gm) : Int := g.last.zeros + 1
/-- The game after the last play is taken back. -/
def wdG (g : Gm) : Gm := ⟨g.ts, g.lex, g.bd0, g.secs, g.rule, ⟨g.bd.size, g.bd.prem, g.last.before⟩, wBag g, wRks g, wSs g, g.clocks, g.player, wZe g, ⟨3, g.last.player, ⟨0, 0, false, []⟩, [], [], 0, 0⟩, wOv g⟩
/-- A game whose racks and scores are new rows, numbers 7 and 8. -/
def gmHw (g g' : Gm) : AH := [(0, .cells (gmK g' (.osl 1) (.osl 2) (.osl 3) (.osl 7) (.osl 8) (.osl 6)) 49), (1, .own [.i .i64] g.ts.values 2), (2, .own [.i .i64] g.ts.counts 2), (3, .own [.s] g.lex 9), (4, .own [.s] g.racks 9),
  (5, .own [.i .i64] g.scores 2), (6, .own [.i .i64] g.clocks 2), (7, .own [.s] g'.racks 9), (8, .own [.i .i64] g'.scores 2)]
/-- What a challenge asks of a game. -/
structure VdP (g : Gm) : Prop where
  pl : PlP g.bef g.last.play
  ws : WsP g.lex
  sc : -1000000 ≤ g.last.score ∧ g.last.score ≤ 1000000
structure WdP (g : Gm) : Prop where
  pl : PlP g.bef g.last.play
  r2 : g.racks.length = 2
  s2 : g.scores.length = 2
  p : 0 ≤ g.last.player ∧ g.last.player ≤ 1
  rk : (g.rk g.last.player).length ≤ 7
  dr : g.last.drawn.length ≤ 120
  bag : g.bag.length ≤ 120
  sc : -1000000 ≤ g.sc g.last.player ∧ g.sc g.last.player ≤ 1000000
  so : -1000000 ≤ g.last.score ∧ g.last.score ≤ 1000000
  z : 0 ≤ g.last.zeros ∧ g.last.zeros ≤ 5
  set : SetP (wd1 g)
section
variable {g : Gm}
theorem w_rest (h : WdP g) : (wRest g).length ≤ 7 := Nat.le_trans (takeGo_sub _ _).length_le h.rk
theorem w_pl (h : WdP g) : (placedS (flatB g.bef g.last.play) (flatP g.last.play)).length ≤ 15 := Nat.le_trans (placedS_len _ _) h.pl.on.len
theorem w_til (h : WdP g) : (wTil g).length ≤ 15 := Nat.le_trans (Nat.le_of_eq (tilesS_len _)) (w_pl h)
theorem v_up : std.ltI 0 (std.len (vWrong g)) = vUp g := by
  unfold vUp
  show decide ((0 : Int) < ((vWrong g).length : Int)) = _
  cases vWrong g with
  | nil => rfl
  | cons x r => simp
theorem v_yes (h : std.ltI 0 (std.len (vWrong g)) = true) : 0 - g.last.score = vPts g := by
  rw [v_up] at h
  rw [vPts, if_pos h]
theorem v_five (h : std.ltI 0 (std.len (vWrong g)) = false) (h2 : std.eqI g.rule 3 = true) : 5 * ((vWords g).length : Int) = vPts g := by
  rw [v_up] at h
  rw [vPts, h, if_neg (by simp), if_pos (beq_iff_eq.1 h2)]
theorem v_no (h : std.ltI 0 (std.len (vWrong g)) = false) (h2 : std.eqI g.rule 3 = false) : 0 = vPts g := by
  rw [v_up] at h
  rw [vPts, h, if_neg (by simp), if_neg (beq_eq_false_iff_ne.1 h2)]
theorem w_ss1 (h : std.eqI (std.add g.last.zeros 1) 6 = true) : setSc (wd1 g) = wSs g := (if_pos h).symm
theorem w_ss0 (h : std.eqI (std.add g.last.zeros 1) 6 = false) : wSc g = wSs g := (if_neg (by unfold wEnd; rw [show (g.last.zeros + 1 == 6) = false from h]; simp)).symm
theorem w_ov1 (h : std.eqI (std.add g.last.zeros 1) 6 = true) : true = wOv g := by
  unfold wOv wEnd
  rw [show (g.last.zeros + 1 == 6) = true from h]; simp
theorem w_ov0 (h : std.eqI (std.add g.last.zeros 1) 6 = false) : g.over = wOv g := by
  unfold wOv wEnd
  rw [show (g.last.zeros + 1 == 6) = false from h]; simp
end
end Ax
end Go.Proofs.YtdojdfminchlaaaGreatDoor
/-
  Challenges: facts of a game whose last play can be challenged.
  Conditions: none.
-/
namespace Go.Proofs.YtdojdfminchlaaaGreatDoor
namespace Ax
set_option maxRecDepth 100000
set_option maxHeartbeats 2000000
theorem takeGo_len : ∀ (a b : Str), (takeGo a b).2 = [] → (takeGo a b).1.length + b.length = a.length
  | [], b, h => by
    rw [takeGo] at h ⊢
    simp only at h ⊢
    rw [h]; rfl
  | x :: a, [], _ => by
    have := takeGo_len a [] (takeGo_nil a)
    rw [takeGo]
    simp only [List.length_cons, List.length_nil] at this ⊢
    omega
  | x :: a, y :: b, h => by
    rw [takeGo] at h ⊢
    by_cases hx : y = x
    · rw [if_pos hx] at h ⊢
      have := takeGo_len a b h
      simp only [List.length_cons]
      omega
    · rw [if_neg hx] at h ⊢
      have := takeGo_len a (y :: b) h
      simp only [List.length_cons] at this ⊢
      omega
theorem takeS_len {a b : Str} (h : takeB a b = true) : (takeS a b).length + b.length = a.length := takeGo_len a b (List.isEmpty_iff.1 h)
def rSc (g : Gm) (k : Int) : List Int := g.scores.set g.last.player.toNat (g.sc g.last.player + k)
def rf1 (g : Gm) (k : Int) : Gm := ⟨g.ts, g.lex, g.bd0, g.secs, g.rule, g.bd, g.bag, g.racks, rSc g k, g.clocks, if g.rule = 2 then 1 - g.player else g.player, if g.rule = 2 then g.zeros + 1 else g.zeros, if g.rule = 2 then idleL 3 g.player else idleL 0 0, g.over⟩
def rfG (g : Gm) (k : Int) : Gm := if waitsB g then { rf1 g k with scores := setSc (rf1 g k), over := true } else rf1 g k
def chC (g : Gm) (n : Int) : Int := if actC g n = 0 then (if canB g then 0 else 6) else actC g n
/-- The game after a challenge. -/
def chG (g : Gm) (n : Int) : Gm := if vUp g then wdG (clockG g n) else rfG (clockG g n) (vPts g)
section
variable {g : Gm} {n : Int}
structure ChF (g : Gm) (n : Int) : Prop where
  act : std.eqI (actC g n) 0 = true
  sy : SyG g n
  can : canB g = true
  ok : playOk g = true
  gm : gameB g = true
theorem chf (h : std.eqI (actC g n) 0 = true) (hc : canB g = true) : ChF g n := by
  refine ⟨h, syg h, hc, ?_, sg h⟩
  have hg := sg h
  unfold gameB at hg
  simp only [Bool.and_eq_true] at hg
  have hl := hg.2.2.2.2.1
  unfold canB at hc
  simp only [Bool.and_eq_true, beq_iff_eq] at hc
  have hk : g.last.kind = 1 := hc.2.2
  unfold lastOk at hl
  rw [if_neg (by omega), if_neg (by omega), if_pos hk] at hl
  exact hl
structure PkF (g : Gm) : Prop where
  pl : g.last.player = 1 - g.player
  ok : okB g.bef g.last.play = true
  z : 0 ≤ g.last.zeros ∧ g.last.zeros ≤ 5
  gz : g.zeros = 0
  dr : bagB g.last.drawn = true
  tk : takeB (g.rk g.last.player) (isort g.last.drawn) = true
  fr : ((g.rk g.last.player).length : Int) - g.last.drawn.length + (freshL (flatB g.bef g.last.play) (flatP g.last.play)).length ≤ 7
  so : g.last.score = scoreS g.ts (flatB g.bef g.last.play) (flatP g.last.play)
  s2 : g.last.score ≤ 20000
theorem pkf (h : playOk g = true) : PkF g := by
  unfold playOk at h
  simp only [Bool.and_eq_true, beq_iff_eq, decide_eq_true_eq] at h
  obtain ⟨a1, a2, a3, a4, a5, a6, a7, a8, a9, a10, a11, a12⟩ := h
  exact ⟨a1, a2, in_bd a3, a4, a5, a6, a9, a11, a12⟩
theorem ch_so (h : ChF g n) : 0 ≤ g.last.score := by
  have hk := pkf h.ok
  have hts := tsB_ok h.sy.ok.ts
  have hb : bdB g.bef = true := by have := hk.ok; unfold okB at this; rw [Bool.and_eq_true] at this; exact this.1
  have hv : validI g.bef g.last.play = true := by rw [← okB_validI hb]; exact hk.ok
  rw [hk.so, score_same hb hv]
  exact (Go.Proofs.YtdojdfminchlaaaGreatDoor.score_bd hts g.bef g.last.play (by have := (validI_facts hv).2.2.2; omega)).1
theorem ch_vd (h : ChF g n) (hw : WsP g.lex) : VdP g := ⟨okB_on (pkf h.ok).ok, hw, by have := ch_so h; omega, by have := (pkf h.ok).s2; omega⟩
theorem ch_ply (h : ChF g n) : 0 ≤ g.last.player ∧ g.last.player ≤ 1 := by
  have h1 := h.sy.fa.ply
  have h2 := (pkf h.ok).pl
  omega
theorem ch_rack (h : ChF g n) : (wRack g).length ≤ 7 := by
  have hk := pkf h.ok
  have h1 := takeS_len hk.tk
  rw [isort_length] at h1
  have h2 := hk.fr
  have h3 : (wTil g).length = (freshL (flatB g.bef g.last.play) (flatP g.last.play)).length := by
    unfold wTil
    rw [tilesS_len, placedS, List.length_map]
  unfold wRack
  rw [isort_length, List.length_append, h3]
  have h4 : (wRest g).length = (takeS (g.rk g.last.player) (isort g.last.drawn)).length := rfl
  omega
theorem ch_clk (h : ChF g n) (k : Int) : -36000 ≤ (clockG g n).clk k :=
  setg_bd (P := fun x : Int => -36000 ≤ x) (L := g.clocks) (i := g.player.toNat) (k := k.toNat) (x := g.clk g.player - n) (d := 0) h.sy.c (by have := h.sy.ok.clk k; unfold Gm.clk at this; omega)
theorem ch_set1 (h : ChF g n) : SetP (wd1 (clockG g n)) := by
  have hts := tsB_ok h.sy.ok.ts
  have hso := ch_so h
  have hs2 := (pkf h.ok).s2
  have hz : ∀ k : Int, -1000000 ≤ (wd1 (clockG g n)).sc k ∧ (wd1 (clockG g n)).sc k ≤ 1000000 := fun k =>
    setg_bd (P := fun x : Int => -1000000 ≤ x ∧ x ≤ 1000000) (L := g.scores) (i := g.last.player.toNat) (k := k.toNat) (x := g.sc g.last.player - g.last.score) (d := 0) (by have := h.sy.ok.sc g.last.player; show -1000000 ≤ g.sc g.last.player - g.last.score ∧ g.sc g.last.player - g.last.score ≤ 1000000; omega) (by have := h.sy.ok.sc k; unfold Gm.sc at this; omega)
  refine ⟨⟨hts, ?_, ?_, fun k => ?_, ch_clk h⟩, ?_, fun k => (hz k).1, fun k => (hz k).2⟩
  · show (g.racks.set _ _).length = 2
    rw [List.length_set]; exact h.sy.r2
  · show (g.clocks.set _ _).length = 2
    rw [List.length_set]; exact h.sy.fa.k
  · exact setg_bd (P := fun x : List UInt8 => x.length ≤ 7) (L := g.racks) (i := g.last.player.toNat) (k := k.toNat) (d := []) (show (wRack g).length ≤ 7 from ch_rack h) (rack_len (h.sy.ok.rk k))
  · show (g.scores.set _ _).length = 2
    rw [List.length_set]; exact h.sy.fa.s
theorem ch_wd (h : ChF g n) : WdP (clockG g n) := by
  have hk := pkf h.ok
  have hs := h.sy.ok.sc g.last.player
  have hso := ch_so h
  refine ⟨okB_on hk.ok, h.sy.r2, h.sy.fa.s, (show 0 ≤ g.last.player ∧ g.last.player ≤ 1 from ch_ply h), rack_len (h.sy.ok.rk _), bag_len hk.dr, bag_len h.sy.ok.bag, ?_, ?_, hk.z, ch_set1 h⟩
  · show -1000000 ≤ g.sc g.last.player ∧ g.sc g.last.player ≤ 1000000
    omega
  · have := hk.s2
    show -1000000 ≤ g.last.score ∧ g.last.score ≤ 1000000
    omega
theorem ch_pts (h : ChF g n) : -20000 ≤ vPts g ∧ vPts g ≤ 100 := by
  have h1 := ch_so h
  have h2 := (pkf h.ok).s2
  have h3 := words_n g.bef g.last.play
  have h4 := (okB_on (pkf h.ok).ok).on.len
  have h5 : (vWords g).length ≤ (flatP g.last.play).word.length + 1 := h3
  unfold vPts
  split
  · omega
  · split <;> omega
theorem ch_set2 (h : ChF g n) : SetP (rf1 (clockG g n) (vPts g)) := by
  have hts := tsB_ok h.sy.ok.ts
  have hp := ch_pts h
  have hz : ∀ k : Int, -1000000 ≤ (rf1 (clockG g n) (vPts g)).sc k ∧ (rf1 (clockG g n) (vPts g)).sc k ≤ 1000000 := fun k =>
    setg_bd (P := fun x : Int => -1000000 ≤ x ∧ x ≤ 1000000) (L := g.scores) (i := g.last.player.toNat) (k := k.toNat) (x := g.sc g.last.player + vPts g) (d := 0) (by have := h.sy.ok.sc g.last.player; show -1000000 ≤ g.sc g.last.player + vPts g ∧ g.sc g.last.player + vPts g ≤ 1000000; omega) (by have := h.sy.ok.sc k; unfold Gm.sc at this; omega)
  refine ⟨⟨hts, h.sy.r2, ?_, fun k => rack_len (h.sy.ok.rk k), ch_clk h⟩, ?_, fun k => (hz k).1, fun k => (hz k).2⟩
  · show (g.clocks.set _ _).length = 2
    rw [List.length_set]; exact h.sy.fa.k
  · show (g.scores.set _ _).length = 2
    rw [List.length_set]; exact h.sy.fa.s
end
end Ax
end Go.Proofs.YtdojdfminchlaaaGreatDoor
