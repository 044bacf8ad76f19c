/-
  Contract: the crossings of a play (layer 12 of the impl package); Contract: the words that a play forms (layer 12 of the impl package); Contracts: placed words, main words (layers 3 and 12 of the impl package).
  Conditions: as each part below says.
-/
import Derived.Test.YtamdcbbclkobiaaGreatDoorM12
import Derived.Test.YtamdcbbclkobiaaGreatDoorM16
import Derived.Test.YtamdcbbclkobiaaGreatDoorM17
/-
  Contract: the crossings of a play (layer 12 of the impl package).
  Conditions: a board of a size from 5 to 15; ASCII letters; all squares of the play are on the board.
-/
namespace Go.Proofs.YtamdcbbclkobiaaGreatDoor
open Go.RowKit RegP RegL RegV
set_option maxHeartbeats 1000000
set_option maxRecDepth 100000

theorem sqsT : SlT Tryz.prog 146 93 (.slice none 0 0) 1 24 := ⟨Tryz.underlying146, by kernel_rfl, rfl, by decide⟩
theorem sequence_any (b : Bd) (d : Bool) (r c : Int) (w : World) (hf : b.Fit) (hin : b.inB r c = true) :
    Calls Tryz.prog 164 #[b.v, sqV r c, dirV d] w fun e w' => ∃ v, e = .returned v ∧ w'.ownsRow w.heap.size 87 2 v (seqL b d r c).length (sqC (seqL b d r c)) ∧ Below w.heap.size w w' := by
  have hl : (seqL b d r c).length = (seqN b d r c).length := by simp [seqL]
  rw [hl]
  cases d
  · exact sequence_false b r c w hf hin
  · exact sequence_true b r c w hf hin
/-- The squares across which words are formed, with the squares of the words. -/
def crossP (b : Bd) (q : Pl) (l : List Nat) : List ((Int × Int) × List (Int × Int)) := ((sqL q l).map fun s => (s, seqL (madeB b q) (!q.down) s.1 s.2)).filter fun x => decide (2 ≤ x.2.length)
theorem crossP_step (b : Bd) (q : Pl) (N : List Nat) (k : Nat) (h : k < N.length) :
    crossP b q (N.take (k + 1)) = if 2 ≤ (seqL (madeB b q) (!q.down) (q.sr N[k]) (q.sc N[k])).length then crossP b q (N.take k) ++ [((q.sr N[k], q.sc N[k]), seqL (madeB b q) (!q.down) (q.sr N[k]) (q.sc N[k]))] else crossP b q (N.take k) := by
  rw [List.take_succ_eq_append_getElem h]
  unfold crossP sqL
  rw [List.map_append, List.map_append, List.filter_append]
  by_cases hh : 2 ≤ (seqL (madeB b q) (!q.down) (q.sr N[k]) (q.sc N[k])).length <;> simp [hh]
theorem crossP_length (b : Bd) (q : Pl) (l : List Nat) : (crossP b q l).length ≤ l.length := by
  unfold crossP
  refine Nat.le_trans (List.length_filter_le _ _) ?_
  simp [sqL]
/-- Rows of squares, none of which is the row of v1. -/
def RowsAt (w : World) (base : Nat) (v1 : Value) (vs : List Value) (ls : List (List (Int × Int))) : Prop :=
  vs.length = ls.length ∧ ∀ i (h : i < ls.length), ∃ v, vs[i]? = some v ∧ w.ownsRow base 87 2 v ls[i].length (sqC ls[i]) ∧ ∀ k, v.ownBlock = some k → v1.ownBlock ≠ some k
section
variable {w w' : World} {base : Nat} {v1 v1' : Value} {vs : List Value} {ls : List (List (Int × Int))}
theorem RowsAt.below (h : RowsAt w base v1 vs ls) (hb : Below w.heap.size w w') : RowsAt w' base v1 vs ls :=
  ⟨h.1, fun i hi => by
    obtain ⟨v, h1, h2, h3⟩ := h.2 i hi
    exact ⟨v, h1, own_call h2 hb, h3⟩⟩
theorem RowsAt.grow1 (h : RowsAt w base v1 vs ls) (hg : w.grownBy w' v1.ownBlock) (hat : v1'.ownBlock = v1.ownBlock ∨ ∃ k, w.heap.size ≤ k ∧ v1'.ownBlock = some k) : RowsAt w' base v1' vs ls :=
  ⟨h.1, fun i hi => by
    obtain ⟨v, h1, h2, h3⟩ := h.2 i hi
    refine ⟨v, h1, own_keep h2 fun k hk => hg.block k (h2.lt k hk).2 (fun e => h3 k hk e.symm), fun k hk e => ?_⟩
    rcases hat with e1 | ⟨j, hj, e1⟩
    · exact h3 k hk (e1 ▸ e)
    · rw [e1] at e; injection e with e; have := (h2.lt k hk).2; omega⟩
theorem RowsAt.grow2 {base2 e2 size2 n2 : Nat} {v2 : Value} {xs2 : List Value} (h : RowsAt w base v1 vs ls) (h2 : w.ownsRow base2 e2 size2 v2 n2 xs2) (hne : 87 ≠ e2) (hg : w.grownBy w' v2.ownBlock) : RowsAt w' base v1 vs ls :=
  ⟨h.1, fun i hi => by
    obtain ⟨v, h1, h3, h4⟩ := h.2 i hi
    exact ⟨v, h1, own_grown h3 h2 hne hg, h4⟩⟩
theorem RowsAt.snoc (h : RowsAt w base v1 vs ls) {v : Value} {l : List (Int × Int)} (hown : w.ownsRow base 87 2 v l.length (sqC l)) (hne : ∀ k, v.ownBlock = some k → v1.ownBlock ≠ some k) : RowsAt w base v1 (vs ++ [v]) (ls ++ [l]) :=
  ⟨by simp [h.1], fun i hi => by
    by_cases hlt : i < ls.length
    · obtain ⟨u, h1, h2, h3⟩ := h.2 i hlt
      exact ⟨u, by rw [List.getElem?_append_left (by rw [h.1]; exact hlt)]; exact h1, by rw [List.getElem_append_left hlt]; exact h2, h3⟩
    · have e : i = ls.length := by simp at hi; omega
      subst e
      exact ⟨v, by rw [List.getElem?_append_right (by rw [h.1]; exact Nat.le_refl _), h.1]; simp, by simpa using hown, hne⟩⟩
end
theorem madeB_fit {b : Bd} (hf : b.Fit) (q : Pl) : (madeB b q).Fit := ⟨hf.lo, hf.hi, hf.prem, by show ((madeTo b q q.word.length).length : Int) = _; rw [madeTo_length]; exact hf.cells⟩
theorem sqC_get (l : List (Int × Int)) (k : Nat) (h : k < l.length) : (sqC l)[k * 2]? = some (.int .i64 l[k].1) ∧ (sqC l)[k * 2 + 1]? = some (.int .i64 l[k].2) := by
  induction l generalizing k with
  | nil => simp at h
  | cons p r ih =>
    show ([Value.int .i64 p.1, .int .i64 p.2] ++ sqC r)[_]? = _ ∧ ([Value.int .i64 p.1, .int .i64 p.2] ++ sqC r)[_]? = _
    cases k with
    | zero => exact ⟨rfl, rfl⟩
    | succ k =>
      have := ih k (by simpa using h)
      rw [show (k + 1) * 2 = k * 2 + 1 + 1 by omega]
      exact this
theorem Reads.sq {w : World} {B g o : Nat} {l : List (Int × Int)} (h : Reads w B 2 (some ⟨g, o, none⟩) l.length (sqC l)) {k : Nat} (hk : k < l.length) :
    w.cell? ⟨g, o + k * 2, none⟩ = some (.int .i64 l[k].1) ∧ w.cell? ⟨g, o + k * 2 + 1, none⟩ = some (.int .i64 l[k].2) := by
  obtain ⟨ad, e, _, hc⟩ := h.2 (by omega)
  injection e with e
  subst e
  have hadd : ∀ n, (⟨g, o, none⟩ : Addr).add n = ⟨g, o + n, none⟩ := fun n => by unfold Addr.add; split <;> simp_all
  obtain ⟨e0, e1⟩ := sqC_get l k hk
  have h0 := hc (k * 2) _ e0
  have h1 := hc (k * 2 + 1) _ e1
  rw [hadd] at h0 h1
  exact ⟨h0, h1⟩
theorem own_form {w : World} {base e size n : Nat} {v : Value} {xs : List Value} (h : w.ownsRow base e size v n xs) : ∃ A c, v = .slice A n c ∧ n ≤ c ∧ Reads w w.heap.size size A n xs ∧ ∀ ad, A = some ad → ∃ g, ad = ⟨g, 0, none⟩ := by
  rcases h.2 with ⟨rfl, rfl⟩ | ⟨g, cap, cur, rfl, _, _, hc, _⟩
  · exact ⟨none, 0, rfl, Nat.le_refl _, Reads.of_own h, fun _ e => by cases e⟩
  · exact ⟨_, cap, rfl, hc, Reads.of_own h, fun _ e => ⟨g, by injection e with e; exact e.symm⟩⟩
/-- What crossings answers. -/
def CrossPost (w : World) (b : Bd) (q : Pl) (e : Ending) (w' : World) : Prop :=
  ∃ v1 v2 vs, e = .returned (.tuple #[v1, v2]) ∧ w'.ownsRow w.heap.size 87 2 v1 (crossP b q (newL b q)).length (sqC ((crossP b q (newL b q)).map (·.1))) ∧ w'.ownsRow w.heap.size 93 1 v2 (crossP b q (newL b q)).length vs ∧ RowsAt w' w.heap.size v1 vs ((crossP b q (newL b q)).map (·.2)) ∧ Below w.heap.size w w'
theorem RowsAt.base {w : World} {base base' : Nat} {v1 : Value} {vs : List Value} {ls : List (List (Int × Int))} (h : RowsAt w base v1 vs ls) (hb : base' ≤ base) : RowsAt w base' v1 vs ls :=
  ⟨h.1, fun i hi => by
    obtain ⟨v, h1, h2, h3⟩ := h.2 i hi
    exact ⟨v, h1, own_base h2 hb, h3⟩⟩
theorem RowsAt.new {w w' : World} {base b2 e e2 size size2 n n2 : Nat} {v v2 : Value} {xs xs2 : List Value} (h : w.ownsRow base e size v n xs) (h2 : w'.ownsRow b2 e2 size2 v2 n2 xs2) (hle : w.heap.size ≤ b2) : ∀ k, v2.ownBlock = some k → v.ownBlock ≠ some k := fun k hk hv => by
  have := (h.lt k hv).2
  have := (h2.lt k hk).1
  omega
theorem crossings_any (b : Bd) (q : Pl) (w : World) (hf : b.Fit) (ha : asciiB q.word = true) (hon : OnQ b q) (hl : q.word.length ≤ 2 ^ 32) (h1 : -400000000000 ≤ q.row) (h2 : q.row ≤ 400000000000) (h3 : -400000000000 ≤ q.col) (h4 : q.col ≤ 400000000000) :
    Calls Tryz.prog 116 #[b.v, q.v] w (CrossPost w b q) := by
  have km := fun w => made_any b q w hf ha hon hl h1 h2 h3 h4
  have kn := fun w => newSquares_any b q w hf ha hl h1 h2 h3 h4
  have hNl := newTo_length b q q.word.length
  change (newL b q).length ≤ _ at hNl
  have hNx := newTo_lt b q q.word.length
  change ∀ x ∈ newL b q, _ at hNx
  have ks : ∀ (k : Nat) (h : k < (newL b q).length) (w : World), Calls Tryz.prog 164 #[(madeB b q).v, sqV (q.sr (newL b q)[k]) (q.sc (newL b q)[k]), dirV (!q.down)] w fun e w' => ∃ v, e = .returned v ∧ w'.ownsRow w.heap.size 87 2 v (seqL (madeB b q) (!q.down) (q.sr (newL b q)[k]) (q.sc (newL b q)[k])).length (sqC (seqL (madeB b q) (!q.down) (q.sr (newL b q)[k]) (q.sc (newL b q)[k]))) ∧ Below w.heap.size w w' :=
    fun k h w => sequence_any (madeB b q) (!q.down) _ _ w (madeB_fit hf q) (hon _ (hNx _ (List.getElem_mem h)))
  have hcr : ∀ (w : World), Calls Tryz.prog (if q.down then 221 else 223) #[.agg #[]] w fun e w' => e = .returned (dirV (!q.down)) ∧ Below w.heap.size w w' := fun w => by
    cases q.down
    · exact cross_right w
    · exact cross_down w
  have hdr := fun w => directionOf_any q.down w
  have hst := fun k h => crossP_step b q (newL b q) k h
  have hcl := fun l => crossP_length b q l
  have hend : Hid (crossP b q (newL b q) = crossP b q ((newL b q).take (newL b q).length)) := Lib.hid (by rw [List.take_length])
  have hsql : Hid (∀ k (h : k < (newL b q).length), (sqL q (newL b q))[k]? = some (q.sr (newL b q)[k], q.sc (newL b q)[k])) := Lib.hid (fun k h => by simp [sqL, List.getElem?_map, List.getElem?_eq_getElem h])
  have hsqn : (sqL q (newL b q)).length = (newL b q).length := by simp [sqL]
  obtain ⟨Ps, hPs⟩ : ∃ Ps, Ps = CrossPost w b q := ⟨_, rfl⟩
  have hPd : Hid (∀ e w', (∃ v1 v2 vs, e = .returned (.tuple #[v1, v2]) ∧ w'.ownsRow w.heap.size 87 2 v1 (crossP b q ((newL b q).take (newL b q).length)).length (sqC ((crossP b q ((newL b q).take (newL b q).length)).map (·.1))) ∧ w'.ownsRow w.heap.size 93 1 v2 (crossP b q ((newL b q).take (newL b q).length)).length vs ∧ RowsAt w' w.heap.size v1 vs ((crossP b q ((newL b q).take (newL b q).length)).map (·.2)) ∧ Below w.heap.size w w') → Ps e w') := Lib.hid (fun e w' h => by rw [hPs]; unfold CrossPost; rw [hend.out]; exact h)
  rw [← hPs]
  obtain ⟨S, hS⟩ : ∃ S, S = fun x : Nat => seqL (madeB b q) (!q.down) (q.sr x) (q.sc x) := ⟨_, rfl⟩
  have hSx : ∀ x : Nat, seqL (madeB b q) (!q.down) (q.sr x) (q.sc x) = S x := fun x => by rw [hS]
  simp only [hSx] at ks hst
  obtain ⟨SQ, hSQ⟩ : ∃ SQ, SQ = sqL q (newL b q) := ⟨_, rfl⟩
  obtain ⟨N, hN⟩ : ∃ N, N = newL b q := ⟨_, rfl⟩
  obtain ⟨CP, hCP⟩ : ∃ CP, CP = crossP b q := ⟨_, rfl⟩
  obtain ⟨M, hM⟩ : ∃ M, M = madeB b q := ⟨_, rfl⟩
  rw [← hSQ] at kn hsql hsqn
  rw [← hN] at kn hNl ks hst hsql hsqn hPd
  rw [← hCP] at hst hPd hcl
  rw [← hM] at km ks
  have hst' := Lib.hid hst
  have hcl' := Lib.hid hcl
  have ks' := Lib.hid ks
  have hsqn' := Lib.hid hsqn
  clear hNx hPs hSx hS hSQ hN hCP hM hst hcl ks hsqn hend ha hon h1 h2 h3 h4 hf
  obtain ⟨sz, bp, bc⟩ := b
  obtain ⟨qr, qc, qd, qw⟩ := q
  obtain ⟨msz, mp, mc⟩ := M
  simp only [Bd.v, Pl.v, sqV] at *
  have hB1 := Blk.new1 w (.cells #[.int .i64 sz, sv bp, sv bc] 33) 48 #[.int .i64 qr, .int .i64 qc, .bool qd, sv qw]
  have hB0 := (Blk.new w 33 #[.int .i64 sz, sv bp, sv bc]).alloc (.cells #[.int .i64 qr, .int .i64 qc, .bool qd, sv qw] 48)
  have hbW := ((Below.refl w.heap.size w).alloc (Nat.le_refl _) (.cells #[.int .i64 sz, sv bp, sv bc] 33)).alloc (by simp) (.cells #[.int .i64 qr, .int .i64 qc, .bool qd, sv qw] 48)
  go_enter Tryz.func116, Tryz.ntmps116
  go_wp2_with (first
    | (go_at_call 115; refine (km _).mono ?_; rintro e w1 ⟨rfl, hb1⟩
       have hD0 := hB0.below hb1 hB0.lt
       have hD1 := hB1.below hb1 hB1.lt
       have hlt1 := hD1.lt
       have hlt0 := hD0.lt
       have c0 : w1.cell? ⟨w.heap.size, 0, none⟩ = some (.int .i64 sz) := hD0.cell 0
       have c1 : w1.cell? ⟨w.heap.size, 1, none⟩ = some (sv bp) := hD0.cell 1
       have c2 : w1.cell? ⟨w.heap.size, 2, none⟩ = some (sv bc) := hD0.cell 2
       have d0 : w1.cell? ⟨w.heap.size + 1, 0, none⟩ = some (.int .i64 qr) := hD1.cell 0
       have d1 : w1.cell? ⟨w.heap.size + 1, 1, none⟩ = some (.int .i64 qc) := hD1.cell 1
       have d2 : w1.cell? ⟨w.heap.size + 1, 2, none⟩ = some (.bool qd) := hD1.cell 2
       have d3 : w1.cell? ⟨w.heap.size + 1, 3, none⟩ = some (sv qw) := hD1.cell 3
       have hne0 : w.heap.size ≠ w1.heap.size := by omega
       have hne1 : w.heap.size + 1 ≠ w1.heap.size := by omega)
    | (go_at_call 65; refine (kn _).mono ?_; rintro e w2 ⟨v1, v2, rfl, ownA, ownB, hb2⟩; obtain ⟨A1, n1, rfl, hn1, hr1, hf1⟩ := own_form ownA; clear ownA ownB))
  have hM2 := (Blk.new w1 33 #[.int .i64 msz, sv mp, sv mc]).below hb2 (by simp)
  have hP2 := (hD1.alloc (.cells #[.int .i64 msz, sv mp, sv mc] 33)).below hb2 (by simp; omega)
  have hw1 := hbW.trans (hb1.mono hbW.size)
  have hw2 := (hw1.alloc hw1.size (.cells #[.int .i64 msz, sv mp, sv mc] 33)).trans (hb2.mono (by have := hw1.size; simp; omega))
  obtain ⟨W, hW⟩ : ∃ W, W = (w2.alloc (.cells #[] 87)).alloc (.cells #[] 93) := ⟨_, rfl⟩
  obtain ⟨B, hBB⟩ : ∃ B, B = w2.heap.size := ⟨_, rfl⟩
  obtain ⟨g6, hg6⟩ : ∃ g6, g6 = w1.heap.size := ⟨_, rfl⟩
  have hwB : w.heap.size ≤ B := by rw [hBB]; exact hw2.size
  have hgB : g6 < B := by rw [hBB, hg6]; exact hM2.lt
  have hpB : w.heap.size + 1 < B := by rw [hBB]; exact hP2.lt
  have hM3 : Blk W g6 33 #[.int .i64 msz, sv mp, sv mc] := by rw [hW, hg6]; exact (hM2.alloc _).alloc _
  have hP3 : Blk W (w.heap.size + 1) 48 #[.int .i64 qr, .int .i64 qc, .bool qd, sv qw] := by rw [hW]; exact (hP2.alloc _).alloc _
  have hw3 : Below w.heap.size w W := by rw [hW]; exact (hw2.alloc hw2.size _).alloc (by have := hw2.size; simp; omega) _
  have hr3 : Reads W B 2 A1 N.length (sqC SQ) := by rw [hW, hBB]; exact (hr1.alloc (Nat.le_refl _) _).alloc (by simp) _
  have hzW : B ≤ W.heap.size := by rw [hW, hBB]; simp; omega
  have hcp0 : Hid (CP (N.take 0) = []) := Lib.hid (List.eq_nil_of_length_eq_zero (by have := hcl'.out (N.take 0); simpa using this))
  have own1 : W.ownsRow B 87 2 (.slice (some ⟨B, 0, none⟩) 0 0) 0 [] := by
    rw [hW, hBB]
    exact (World.ownsRow_lit (base := w2.heap.size) (size := 2) (e := 87) w2 #[] 0 (Nat.le_refl _) (by unfold maxLen; omega) rfl).alloc _
  have own2 : W.ownsRow B 93 1 (.slice (some ⟨B + 1, 0, none⟩) 0 0) 0 [] := by
    rw [hW, hBB]
    have := World.ownsRow_lit (base := w2.heap.size) (size := 1) (e := 93) (w2.alloc (.cells #[] 87)) #[] 0 (by simp) (by unfold maxLen; omega) rfl
    simpa using this
  have hra : RowsAt W B (.slice (some ⟨B, 0, none⟩) 0 0) [] [] := ⟨rfl, fun i h => absurd h (by simp)⟩
  rw [← hW, ← hBB, ← hg6]
  clear hW hBB hg6 hM2 hP2 hw1 hw2 hr1 hb2 hb1 hbW hD0 hD1 c0 c1 c2 d0 d1 d2 d3 hlt0 hlt1 hne0 hne1 hB0 hB1
  go_loopw [9, 10, 27] (fun o1 o2 i wr => ∃ (k : Nat) (vs : List Value), k ≤ N.length ∧ i = .int .i64 k ∧ wr.ownsRow B 87 2 o1 (CP (N.take k)).length (sqC ((CP (N.take k)).map (·.1))) ∧ wr.ownsRow B 93 1 o2 (CP (N.take k)).length vs ∧ RowsAt wr B o1 vs ((CP (N.take k)).map (·.2)) ∧ Blk wr g6 33 #[.int .i64 msz, sv mp, sv mc] ∧ Blk wr (w.heap.size + 1) 48 #[.int .i64 qr, .int .i64 qc, .bool qd, sv qw] ∧ Reads wr B 2 A1 N.length (sqC SQ) ∧ Below w.heap.size w wr ∧ B ≤ wr.heap.size) (fun _ _ i _ => N.length - (intOf i).toNat)
  case atStart => exact ⟨0, [], by omega, rfl, by rw [hcp0.out]; exact own1, by rw [hcp0.out]; exact own2, by rw [hcp0.out]; exact hra, hM3, hP3, hr3, hw3, hzW⟩
  case round =>
    clear own1 own2 hra hM3 hP3 hr3 hw3 hzW hcp0
    obtain ⟨k, vs, hk, rfl, own1, own2, hra, hM3, hP3, hr3, hw3, hz3⟩ := hrel
    by_cases hkl : k < N.length
    · obtain ⟨ad, rfl, hadb, _⟩ := hr3.2 (by omega)
      obtain ⟨g, rfl⟩ := hf1 ad rfl
      have hrd : Reads wr B 2 (some ⟨g, 0, none⟩) SQ.length (sqC SQ) := by rw [hsqn'.out]; exact hr3
      obtain ⟨e0, e1⟩ := hrd.sq (k := k) (by rw [hsqn'.out]; exact hkl)
      have hsk := hsql.out k hkl
      have hsk2 : SQ[k]'(by rw [hsqn'.out]; exact hkl) = (Pl.sr ⟨qr, qc, qd, qw⟩ N[k], Pl.sc ⟨qr, qc, qd, qw⟩ N[k]) := by
        rw [List.getElem?_eq_getElem (by rw [hsqn'.out]; exact hkl)] at hsk; injection hsk
      rw [hsk2] at e0 e1
      simp only [Nat.zero_add] at e0 e1
      have hstep := Lib.hid (hst'.out k hkl)
      have kq := ks'.out k hkl
      have hcl := hcl'.out (N.take k)
      rw [List.length_take] at hcl
      obtain ⟨sr, hsr⟩ : ∃ sr, sr = Pl.sr ⟨qr, qc, qd, qw⟩ N[k] := ⟨_, rfl⟩
      obtain ⟨sc, hsc⟩ : ∃ sc, sc = Pl.sc ⟨qr, qc, qd, qw⟩ N[k] := ⟨_, rfl⟩
      obtain ⟨L, hL⟩ : ∃ L, L = S N[k] := ⟨_, rfl⟩
      rw [← hsr] at e0 kq hstep
      rw [← hsc] at e1 kq hstep
      rw [← hL] at kq hstep
      clear hsr hsc hL hsk hsk2 hrd
      obtain ⟨P0, hP0⟩ : ∃ P0, P0 = CP (N.take k) := ⟨_, rfl⟩
      rw [← hP0] at own1 own2 hra hstep hcl
      clear hP0
      have hPl : P0.length + 1 ≤ 1099511627776 := by omega
      have hgz : g < wr.heap.size := by simp at hadb; omega
      have hkk : (k : Int) < (N.length : Int) := by omega
      clear hcl
      go_wp2_with (fail)
      obtain ⟨W3, hW3⟩ : ∃ W3, W3 = wr.alloc (.cells #[.int .i64 sr, .int .i64 sc] 87) := ⟨_, rfl⟩
      have hSQ : Blk W3 wr.heap.size 87 #[.int .i64 sr, .int .i64 sc] := by rw [hW3]; exact Blk.new _ _ _
      have hb3 : Below wr.heap.size wr W3 := by rw [hW3]; exact (Below.refl _ _).alloc (Nat.le_refl _) _
      rw [← hW3]
      clear hW3
      have hM4 := hM3.below hb3 hM3.lt
      have hP4 := hP3.below hb3 hP3.lt
      have hnil := fun w => nil_cross qd w
      have hmet := fun w => meth_cross qd w
      have hdr' : ∀ w, Calls Tryz.prog 108 #[.bool qd] w fun e w' => e = .returned (.iface (if qd = true then 182 else 183) (.agg #[])) ∧ w = w' := hdr
      have hcr' : ∀ w, Calls Tryz.prog (if qd = true then 221 else 223) #[.agg #[]] w fun e w' => e = .returned (dirV (!qd)) ∧ Below w.heap.size w w' := hcr
      obtain ⟨DV, hDV⟩ : ∃ DV, DV = dirV (!qd) := ⟨_, rfl⟩
      rw [← hDV] at kq hcr'
      clear hDV
      cases qd
      all_goals
        simp only [Bool.false_eq_true, if_false, if_true] at hnil hmet hdr' hcr'
      all_goals
        refine wp_region_l 9 6 (SBel _) (by kernel_rfl) (by kernel_rfl) ((Below.refl _ _).drew) ?_
        simp only [List.take_succ_cons, List.take_zero, List.drop_succ_cons, List.drop_zero]
        iterate 6
          apply pl_step rfl
          · intro L w4 hS4 h1 h2 K hK
            clear h1 h2
            have hb4 : Below _ _ w4 := hS4
            clear hS4
            have hSQ4 := hSQ.below hb4 hSQ.lt
            have f0 : w4.cell? ⟨wr.heap.size, 0, none⟩ = some (.int .i64 sr) := hSQ4.cell 0
            have f1 : w4.cell? ⟨wr.heap.size, 1, none⟩ = some (.int .i64 sc) := hSQ4.cell 1
            have hM5 := hM4.below hb4 hM4.lt
            have g0 : w4.cell? ⟨g6, 0, none⟩ = some (.int .i64 msz) := hM5.cell 0
            have g1 : w4.cell? ⟨g6, 1, none⟩ = some (sv mp) := hM5.cell 1
            have g2 : w4.cell? ⟨g6, 2, none⟩ = some (sv mc) := hM5.cell 2
            have d2 : w4.cell? ⟨w.heap.size + 1, 2, none⟩ = some (.bool _) := (hP4.below hb4 hP4.lt).cell 2
            go_wp2_with (first | (go_at_call 108; (with_reducible refine (hdr' _).mono ?_); rintro e w5 ⟨rfl, rfl⟩) | (go_at_call 223; (with_reducible refine (hcr' _).mono ?_); rintro e w5 ⟨rfl, hb5⟩) | (go_at_call 221; (with_reducible refine (hcr' _).mono ?_); rintro e w5 ⟨rfl, hb5⟩))
            first | exact hb4 | exact hb4.trans (hb5.mono hb4.size) | exact hb4.trans (hd5.below.mono hb4.size)
          simp only [Act.put, List.setIfInBounds_toArray, List.set_cons_succ, List.set_cons_zero]
        refine pl_nil ?_
        intro w4 hS4
        have hb4 : Below _ _ w4 := hS4
        clear hS4
        have hb34 := hb3.trans (hb4.mono hb3.size)
        by_cases h2L : 2 ≤ L.length
        · have h2i : (2 : Int) ≤ (L.length : Int) := by omega
          have hstep2 : Hid (CP (List.take (k + 1) N) = P0 ++ [((sr, sc), L)]) := Lib.hid (by rw [hstep.out, if_pos h2L])
          have hlit := run_lit1 sqT (.agg #[.int .i64 sr, .int .i64 sc]) #[.int .i64 sr, .int .i64 sc] rfl rfl (by omega)
          clear hstep h2L
          go_wp2_with (first
            | (go_at_call 164; refine (kq _).mono ?_; rintro e w5 ⟨v5, rfl, ownL, hb5⟩
               have hb45 := hb34.trans (hb5.mono hb34.size)
               have hSQ5 := (hSQ.below hb4 hSQ.lt).below hb5 (Nat.lt_of_lt_of_le hSQ.lt hb4.size)
               have f0 : w5.cell? ⟨wr.heap.size, 0, none⟩ = some (.int .i64 sr) := hSQ5.cell 0
               have f1 : w5.cell? ⟨wr.heap.size, 1, none⟩ = some (.int .i64 sc) := hSQ5.cell 1
               have hra5 := hra.below hb45
               have own15 := own_call own1 hb45
               have own25 := own_call own2 hb45
               have hM5 := hM3.below hb45 hM3.lt
               have hP5 := hP3.below hb45 hP3.lt
               have hr5 := hr3.below' hb45 hz3
               have hbb := hw3.trans (hb45.mono hw3.size)
               have hz5 := Nat.le_trans hz3 hb45.size
               have hbz := hbb.size
               have hz4 := Nat.le_trans hz3 hb34.size
               have hne := RowsAt.new own1 ownL (Nat.le_trans hb34.size (Nat.le_refl _))
               have hsn := hra5.snoc (own_base ownL hz4) hne
               obtain ⟨A5, n5, rfl, hn5, -, -⟩ := own_form ownL
               clear ownL)
            | (at_builtin; refine wpList_app sqT rfl (.tmp 41) (.tmp 43) rfl _ P0.length _ rfl B own15 [.int .i64 sr, .int .i64 sc] rfl (by simp [Value.oneCell']) rfl hPl (by omega) hz5 ?_; intro v6 w6 own6 hg6 hat6
               have own26 := own_grown own25 own15 (by decide) hg6
               have hz6 := Nat.le_trans hz5 hg6.size
               have hra6 := hsn.grow1 hg6 (hat6.imp id fun e => ⟨_, Nat.le_succ _, e⟩))
            | (at_builtin; refine wpList_app sqsT rfl (.tmp 45) (.tmp 47) rfl _ P0.length _ rfl B own26 [_] rfl (by simp [Value.oneCell']) rfl hPl (by omega) hz6 ?_; intro v7 w7 own7 hg7 hat7
               have hra7 := hra6.grow2 own26 (by decide) hg7))
          go_roundw
          case rel => exact ⟨k + 1, _, by omega, rfl, by rw [hstep2.out]; exact own_cast (own_grown own6 own26 (by decide) hg7) (by simp [sqC_append, sqC_one]) (by simp), by rw [hstep2.out]; exact own_cast own7 rfl (by simp), by rw [hstep2.out, List.map_append]; exact hra7, (hM5.grown hg6 (fun h => own_blk_ne own15 hM5 (by decide) h.symm)).grown hg7 (fun h => own_blk_ne own26 (hM5.grown hg6 (fun h => own_blk_ne own15 hM5 (by decide) h.symm)) (by decide) h.symm), (hP5.grown hg6 (fun h => own_blk_ne own15 hP5 (by decide) h.symm)).grown hg7 (fun h => own_blk_ne own26 (hP5.grown hg6 (fun h => own_blk_ne own15 hP5 (by decide) h.symm)) (by decide) h.symm), (hr5.grown hg6 hz5 (fun k hk => (own15.lt k hk).1)).grown hg7 hz6 (fun k hk => (own26.lt k hk).1), Below.own (Below.own hbb hbz own15 (by omega) hg6) (by omega) own26 (by omega) hg7, Nat.le_trans hz6 hg7.size⟩
          case measure => simp only [intOf]; omega
        · have h2i : ¬ (2 : Int) ≤ (L.length : Int) := by omega
          have hstep2 : Hid (CP (List.take (k + 1) N) = P0) := Lib.hid (by rw [hstep.out, if_neg h2L])
          clear hstep h2L
          go_wp2_with (first
            | (go_at_call 164; refine (kq _).mono ?_; rintro e w5 ⟨v5, rfl, ownL, hb5⟩
               have hb45 := hb34.trans (hb5.mono hb34.size)
               have hra5 := hra.below hb45
               have own15 := own_call own1 hb45
               have own25 := own_call own2 hb45
               have hM5 := hM3.below hb45 hM3.lt
               have hP5 := hP3.below hb45 hP3.lt
               have hr5 := hr3.below' hb45 hz3
               have hbb := hw3.trans (hb45.mono hw3.size)
               have hz5 := Nat.le_trans hz3 hb45.size
               obtain ⟨A5, n5, rfl, hn5, -, -⟩ := own_form ownL
               clear ownL))
          go_roundw
          case rel => exact ⟨k + 1, vs, by omega, rfl, by rw [hstep2.out]; exact own15, by rw [hstep2.out]; exact own25, by rw [hstep2.out]; exact hra5, hM5, hP5, hr5, hbb, hz5⟩
          case measure => simp only [intOf]; omega
    · obtain rfl : k = N.length := by omega
      have hkk : ¬ (N.length : Int) < (N.length : Int) := by omega
      go_wp2_with (fail)
      exact hPd.out _ _ ⟨_, _, vs, rfl, own_base own1 hwB, own_base own2 hwB, hra.base hwB, hw3⟩
end Go.Proofs.YtamdcbbclkobiaaGreatDoor
/-
  Contract: the words that a play forms (layer 12 of the impl package).
  Conditions: a board of a size from 5 to 15; ASCII letters; all squares of the play are on the board.
-/
namespace Go.Proofs.YtamdcbbclkobiaaGreatDoor
open Go.RowKit RegP RegL RegV
set_option maxHeartbeats 1000000
set_option maxRecDepth 100000

/-- The letters on some squares. -/
def sqW (M : Bd) (l : List (Int × Int)) : Str := l.map fun s => M.cell s.1 s.2
/-- The words across. -/
def crossW (b : Bd) (q : Pl) : List Str := (crossP b q (newL b q)).map fun x => lowS (sqW (madeB b q) x.2)
/-- All words that a play forms. -/
def wordsI (b : Bd) (q : Pl) : List Str := lowS q.word :: crossW b q
theorem strT1 : SlT Tryz.prog 22 9 (.string ⟨#[]⟩) 1 16 := ⟨Tryz.underlying22, by kernel_rfl, rfl, by decide⟩
theorem asciiB_getD {s : Str} (h : asciiB s = true) (k : Nat) : (s.getD k 0).toNat < 128 := by
  rw [List.getD_eq_getElem?_getD]
  rcases Nat.lt_or_ge k s.length with hk | hk
  · rw [List.getElem?_eq_getElem hk]
    have := List.all_eq_true.1 h _ (List.getElem_mem hk)
    simpa using this
  · rw [List.getElem?_eq_none hk]; decide
theorem madeTo_ascii {b : Bd} {q : Pl} (hb : asciiB b.cells = true) (hq : asciiB q.word = true) : ∀ k, asciiB (madeTo b q k) = true
  | 0 => hb
  | k + 1 => by
    rw [madeTo_succ]
    refine List.all_eq_true.2 fun c hc => ?_
    rcases List.mem_or_eq_of_mem_set hc with h | h
    · exact List.all_eq_true.1 (madeTo_ascii hb hq k) c h
    · subst h; simpa using asciiB_getD hq k
theorem sqW_ascii {M : Bd} (hM : asciiB M.cells = true) (l : List (Int × Int)) : asciiB (sqW M l) = true := by
  refine List.all_eq_true.2 fun c hc => ?_
  obtain ⟨s, _, rfl⟩ := List.mem_map.1 hc
  unfold Bd.cell
  split
  · simpa [Bd.at_] using asciiB_getD hM _
  · decide
theorem seqGo_length (b : Bd) (d : Bool) (r c : Int) : ∀ f n, (seqGo b d r c f n).length ≤ f
  | 0, _ => Nat.le_refl _
  | f + 1, n => by
    unfold seqGo
    split
    · have := seqGo_length b d r c f (n + 1); simp; omega
    · simp
theorem crossP_seq (b : Bd) (q : Pl) (l : List Nat) : ∀ x ∈ crossP b q l, x.2.length ≤ 32 := fun x hx => by
  obtain ⟨s, _, rfl⟩ := List.mem_map.1 (List.mem_filter.1 hx).1
  simpa [seqL, seqN] using seqGo_length (madeB b q) (!q.down) s.1 s.2 32 _
theorem RowsAt.at_ {w : World} {base : Nat} {v1 : Value} {vs : List Value} {ls : List (List (Int × Int))} (h : RowsAt w base v1 vs ls) {k : Nat} (hk : k < ls.length) :
    ∃ A n c, vs[k]? = some (.slice A n c) ∧ n = ls[k].length ∧ n ≤ c ∧ Reads w w.heap.size 2 A ls[k].length (sqC ls[k]) ∧ ∀ ad, A = some ad → ∃ g, ad = ⟨g, 0, none⟩ := by
  obtain ⟨v, h1, h2, _⟩ := h.2 k hk
  obtain ⟨A, c, rfl, h4, h5, h6⟩ := own_form h2
  exact ⟨A, _, c, h1, rfl, h4, h5, h6⟩
theorem RowsAt.for_ {w : World} {base : Nat} {v1 v2 : Value} {vs : List Value} {ls : List (List (Int × Int))} (h : RowsAt w base v1 vs ls) (hv : ∀ k, v2.ownBlock = some k → k < base) : RowsAt w base v2 vs ls :=
  ⟨h.1, fun i hi => by
    obtain ⟨v, h1, h2, _⟩ := h.2 i hi
    refine ⟨v, h1, h2, fun k hk e => ?_⟩
    have := (h2.lt k hk).1
    have := hv k e
    omega⟩
theorem wordsFormed_any (b : Bd) (q : Pl) (w : World) (hf : b.Fit) (hba : asciiB b.cells = true) (ha : asciiB q.word = true) (hon : OnQ b q) (hl : q.word.length ≤ 2 ^ 32) (h1 : -400000000000 ≤ q.row) (h2 : q.row ≤ 400000000000) (h3 : -400000000000 ≤ q.col) (h4 : q.col ≤ 400000000000) :
    Calls Tryz.prog 69 #[b.v, q.v] w fun e w' => ∃ v, e = .returned v ∧ w'.ownsRow w.heap.size 9 1 v (wordsI b q).length ((wordsI b q).map sv) ∧ Below w.heap.size w w' := by
  have km := fun w => made_any b q w hf ha hon hl h1 h2 h3 h4
  have kx : ∀ w, Calls Tryz.prog 116 #[b.v, q.v] w fun e w' => ∃ v1 v2 vs, e = .returned (.tuple #[v1, v2]) ∧ w'.ownsRow w.heap.size 87 2 v1 (crossP b q (newL b q)).length (sqC ((crossP b q (newL b q)).map (·.1))) ∧ w'.ownsRow w.heap.size 93 1 v2 (crossP b q (newL b q)).length vs ∧ RowsAt w' w.heap.size v1 vs ((crossP b q (newL b q)).map (·.2)) ∧ Below w.heap.size w w' :=
    fun w => crossings_any b q w hf ha hon hl h1 h2 h3 h4
  have kl := fun w => lower_any q.word w (by omega) ha
  have hMa := madeTo_ascii hba ha q.word.length
  have kc := fun (r c : Int) w => cell_any (madeB b q) r c w (madeB_fit hf q)
  have hsl := crossP_seq b q (newL b q)
  have hCl := crossP_length b q (newL b q)
  have hNl := newTo_length b q q.word.length
  change (newL b q).length ≤ _ at hNl
  have hWl : Hid ((wordsI b q).length = (crossP b q (newL b q)).length + 1) := Lib.hid (by simp [wordsI, crossW])
  have hW0 : Hid ((wordsI b q).take 1 = [lowS q.word]) := Lib.hid rfl
  have hWk : Hid (∀ k (h : k < (crossP b q (newL b q)).length), (wordsI b q).take (k + 1 + 1) = (wordsI b q).take (k + 1) ++ [lowS (sqW (madeB b q) (crossP b q (newL b q))[k].2)]) := Lib.hid (fun k h => by
    have hlt : k + 1 < (wordsI b q).length := by rw [hWl.out]; omega
    rw [List.take_succ_eq_append_getElem hlt]
    simp [wordsI, crossW])
  have klw : Hid (∀ k (h : k < (crossP b q (newL b q)).length) w, Calls Tryz.prog 21 #[sv (sqW (madeB b q) (crossP b q (newL b q))[k].2)] w fun e w' => e = .returned (sv (lowS (sqW (madeB b q) (crossP b q (newL b q))[k].2))) ∧ Below w.heap.size w w') := Lib.hid (fun k h w => lower_any _ w (by
    have := hsl _ (List.getElem_mem h)
    rw [sqW, List.length_map]; omega) (sqW_ascii hMa _))
  have hsl' : Hid (∀ k (h : k < (crossP b q (newL b q)).length), (crossP b q (newL b q))[k].2.length ≤ 32) := Lib.hid (fun k h => hsl _ (List.getElem_mem h))
  obtain ⟨WI, hWI⟩ : ∃ WI, WI = wordsI b q := ⟨_, rfl⟩
  obtain ⟨X, hX⟩ : ∃ X, X = crossP b q (newL b q) := ⟨_, rfl⟩
  obtain ⟨M, hM⟩ : ∃ M, M = madeB b q := ⟨_, rfl⟩
  obtain ⟨Q, hQ⟩ : ∃ Q, Q = lowS q.word := ⟨_, rfl⟩
  rw [← hWI] at hWl hW0 hWk ⊢
  rw [← hX] at kx hCl hWl hWk klw hsl'
  rw [← hM] at km kc hWk klw
  rw [← hQ] at kl hW0
  clear hWI hX hM hQ hsl hMa hf hba ha hon h1 h2 h3 h4
  have hXl : X.length ≤ 2 ^ 32 := by omega
  clear hCl hNl
  obtain ⟨sz, bp, bc⟩ := b
  obtain ⟨qr, qc, qd, qw⟩ := q
  obtain ⟨msz, mp, mc⟩ := M
  simp only [Bd.v, Pl.v] at *
  have hB1 := Blk.new1 w (.cells #[.int .i64 sz, sv bp, sv bc] 33) 48 #[.int .i64 qr, .int .i64 qc, .bool qd, sv qw]
  have hB0 := (Blk.new w 33 #[.int .i64 sz, sv bp, sv bc]).alloc (.cells #[.int .i64 qr, .int .i64 qc, .bool qd, sv qw] 48)
  have hbW := ((Below.refl w.heap.size w).alloc (Nat.le_refl _) (.cells #[.int .i64 sz, sv bp, sv bc] 33)).alloc (by simp) (.cells #[.int .i64 qr, .int .i64 qc, .bool qd, sv qw] 48)
  have hlit := fun s => run_lit1 strT1 (sv s) #[sv s] rfl rfl (by omega)
  go_enter Tryz.func69, Tryz.ntmps69
  go_wp2_with (first
    | (go_at_call 115; refine (km _).mono ?_; rintro e w1 ⟨rfl, hb1⟩
       have hD0 := hB0.below hb1 hB0.lt
       have hD1 := hB1.below hb1 hB1.lt
       have hlt1 := hD1.lt
       have d3 : w1.cell? ⟨w.heap.size + 1, 3, none⟩ = some (sv qw) := hD1.cell 3
       have hne1 : w.heap.size + 1 ≠ w1.heap.size := by omega)
    | (go_at_call 21; refine (kl _).mono ?_; rintro e w2 ⟨rfl, hb2⟩
       have hM2 := (Blk.new w1 33 #[.int .i64 msz, sv mp, sv mc]).below hb2 (by simp)
       have hP2 := (hD1.alloc (.cells #[.int .i64 msz, sv mp, sv mc] 33)).below hb2 (by simp; omega)
       have hQ2 := (hD0.alloc (.cells #[.int .i64 msz, sv mp, sv mc] 33)).below hb2 (by simp; have := hD0.lt; omega)
       have hw1 := hbW.trans (hb1.mono hbW.size)
       have hw2 := (hw1.alloc hw1.size (.cells #[.int .i64 msz, sv mp, sv mc] 33)).trans (hb2.mono (by have := hw1.size; simp; omega))
       have ow2 := World.ownsRow_lit (base := w.heap.size) (size := 1) (e := 9) w2 #[sv Q] 1 hw2.size (by unfold maxLen; omega) rfl
       have lt0 := hQ2.lt
       have lt1 := hP2.lt
       have x0 : w2.cell? ⟨w.heap.size, 0, none⟩ = some (.int .i64 sz) := hQ2.cell 0
       have x1 : w2.cell? ⟨w.heap.size, 1, none⟩ = some (sv bp) := hQ2.cell 1
       have x2 : w2.cell? ⟨w.heap.size, 2, none⟩ = some (sv bc) := hQ2.cell 2
       have d0 : w2.cell? ⟨w.heap.size + 1, 0, none⟩ = some (.int .i64 qr) := hP2.cell 0
       have d1 : w2.cell? ⟨w.heap.size + 1, 1, none⟩ = some (.int .i64 qc) := hP2.cell 1
       have d2 : w2.cell? ⟨w.heap.size + 1, 2, none⟩ = some (.bool qd) := hP2.cell 2
       have d3' : w2.cell? ⟨w.heap.size + 1, 3, none⟩ = some (sv qw) := hP2.cell 3)
    | (go_at_call 116; refine (kx _).mono ?_; rintro e w3 ⟨v1, v2, vs, rfl, ownA, ownB, hra, hb3⟩; obtain ⟨A2, n2, rfl, hn2, -, -⟩ := own_form ownB; clear ownA))
  have ow3 := own_call ow2 (hb3.mono (by simp))
  have hM3 := (hM2.alloc (.cells #[sv Q] 9)).below hb3 (by simp; have := hM2.lt; omega)
  have hw3 := (hw2.alloc hw2.size (.cells #[sv Q] 9)).trans (hb3.mono (by have := hw2.size; simp; omega))
  have hra3 := RowsAt.for_ (v2 := .slice (some ⟨w2.heap.size, 0, none⟩) 1 1) hra (fun k hk => by
    simp only [Value.ownBlock, Option.some.injEq] at hk
    simp; omega)
  obtain ⟨B, hBB⟩ : ∃ B, B = (w2.alloc (.cells #[sv Q] 9)).heap.size := ⟨_, rfl⟩
  have hB3 : B ≤ w3.heap.size := by rw [hBB]; exact hb3.size
  have hgB : w1.heap.size < B := by rw [hBB]; have := hM2.lt; simp; omega
  have hwB : w.heap.size ≤ B := by rw [hBB]; have := hw2.size; simp; omega
  obtain ⟨g2, hg2⟩ : ∃ g2, g2 = w2.heap.size := ⟨_, rfl⟩
  rw [← hBB] at hra3 ownB
  rw [← hg2] at ow3 hra3 ⊢
  obtain ⟨g1, hg1⟩ : ∃ g1, g1 = w1.heap.size := ⟨_, rfl⟩
  rw [← hg1] at hM3 hgB ⊢
  clear hD0 hD1 hlt1 d3 hne1 hM2 hP2 hQ2 hw1 hw2 ow2 lt0 lt1 x0 x1 x2 d0 d1 d2 d3' hB0 hB1 hbW hra hBB hb2 hb1 hg2 hg1 hb3
  go_loopw [6, 29] (fun o i wr => ∃ k : Nat, k ≤ X.length ∧ i = .int .i64 k ∧ wr.ownsRow w.heap.size 9 1 o (k + 1) ((WI.take (k + 1)).map sv) ∧ RowsAt wr B o vs (X.map (·.2)) ∧ wr.ownsRow B 93 1 (.slice A2 X.length n2) X.length vs ∧ Blk wr g1 33 #[.int .i64 msz, sv mp, sv mc] ∧ Below w.heap.size w wr ∧ w3.heap.size ≤ wr.heap.size) (fun _ i _ => X.length - (intOf i).toNat)
  case atStart => exact ⟨0, by omega, rfl, own_cast ow3 (by rw [hW0.out]; rfl) rfl, hra3, ownB, hM3, hw3, Nat.le_refl _⟩
  case round =>
    clear ow3 hra3 ownB hM3 hw3
    obtain ⟨k, hk, rfl, ow3, hra3, ownB, hM3, hw3, hz3⟩ := hrel
    have hr2 := Reads.of_own ownB
    by_cases hkl : k < X.length
    · obtain ⟨ad, u, rfl, hadb, hvk, hc3⟩ := hr2.at_ hkl
      obtain ⟨A, n, c, hvk2, hn, hnc, hrd, hf⟩ := hra3.at_ (k := k) (by simpa using hkl)
      rw [hvk] at hvk2
      obtain rfl : u = .slice A n c := by injection hvk2
      simp only [List.getElem_map] at hn hrd
      have hWk' := Lib.hid (hWk.out k hkl)
      have hll := hsl'.out k hkl
      have klk := klw.out k hkl
      obtain ⟨L, hL⟩ : ∃ L, L = X[k].2 := ⟨_, rfl⟩
      rw [← hL] at hn hrd hWk' hll klk
      clear hL hvk hvk2
      subst hn
      have hkk : (k : Int) < (X.length : Int) := by omega
      have hadz : ad.block < wr.heap.size := hadb
      have hMlt := hM3.lt
      clear hadb
      go_wp2_with (fail)
      obtain ⟨wo, hwo⟩ : ∃ wo, wo = wr := ⟨_, rfl⟩
      subst hwo
      obtain ⟨W, hW⟩ : ∃ W, W = wo.alloc (.cells #[] 5) := ⟨_, rfl⟩
      have hbW : Below wo.heap.size wo W := by rw [hW]; exact (Below.refl _ _).alloc (Nat.le_refl _) _
      have own0 : W.ownsRow wo.heap.size 5 1 (.slice (some ⟨wo.heap.size, 0, none⟩) 0 0) 0 [] := by rw [hW]; exact World.ownsRow_lit (base := wo.heap.size) (size := 1) (e := 5) wo #[] 0 (Nat.le_refl _) (by unfold maxLen; omega) rfl
      rw [← hW]
      clear hW
      have hSdef : Hid (∀ j (h : j < L.length), (sqW ⟨msz, mp, mc⟩ L).take (j + 1) = (sqW ⟨msz, mp, mc⟩ L).take j ++ [Bd.cell ⟨msz, mp, mc⟩ L[j].1 L[j].2]) := Lib.hid (fun j h => by
        have hlt : j < (sqW ⟨msz, mp, mc⟩ L).length := by rw [sqW, List.length_map]; exact h
        rw [List.take_succ_eq_append_getElem hlt]
        simp [sqW])
      have hSl : Hid ((sqW ⟨msz, mp, mc⟩ L).length = L.length) := Lib.hid (by rw [sqW, List.length_map])
      obtain ⟨S, hS⟩ : ∃ S, S = sqW ⟨msz, mp, mc⟩ L := ⟨_, rfl⟩
      rw [← hS] at hSdef hSl hWk' klk
      clear hS
      go_loopw [11, 36] (fun o i wr => ∃ j : Nat, j ≤ L.length ∧ i = .int .i64 j ∧ wr.ownsRow wo.heap.size 5 1 o j ((S.take j).map bv) ∧ Below wo.heap.size wo wr) (fun _ i _ => L.length - (intOf i).toNat)
      case atStart => exact ⟨0, by omega, rfl, own0, hbW⟩
      case round =>
        clear own0 hbW
        obtain ⟨j, hj, rfl, own1, hbi⟩ := hrel
        by_cases hjl : j < L.length
        · have hri := hrd.below hbi
          obtain ⟨ad2, rfl, hadb, _⟩ := hri.2 (by omega)
          obtain ⟨g, rfl⟩ := hf ad2 rfl
          obtain ⟨e0, e1⟩ := hri.sq (k := j) hjl
          simp only [Nat.zero_add] at e0 e1
          have hstep := Lib.hid (hSdef.out j hjl)
          obtain ⟨sr, hsr⟩ : ∃ sr, sr = L[j].1 := ⟨_, rfl⟩
          obtain ⟨sc, hsc⟩ : ∃ sc, sc = L[j].2 := ⟨_, rfl⟩
          rw [← hsr] at e0 hstep
          rw [← hsc] at e1 hstep
          clear hsr hsc
          have hgz : g < wr.heap.size := by simp at hadb; have := hbi.size; omega
          have hjj : (j : Int) < (L.length : Int) := by omega
          have hMi := hM3.below hbi hMlt
          have hMz := hMi.lt
          have c0 : wr.cell? ⟨g1, 0, none⟩ = some (.int .i64 msz) := hMi.cell 0
          have c1 : wr.cell? ⟨g1, 1, none⟩ = some (sv mp) := hMi.cell 1
          have c2 : wr.cell? ⟨g1, 2, none⟩ = some (sv mc) := hMi.cell 2
          have kcc := fun w => kc sr sc w
          obtain ⟨ch, hch⟩ : ∃ ch, ch = Bd.cell ⟨msz, mp, mc⟩ sr sc := ⟨_, rfl⟩
          rw [← hch] at kcc hstep
          clear hch
          have hbs := hbi.size
          clear hri hrd
          go_wp2_with (first
            | (go_at_call 62; refine (kcc _).mono ?_; rintro e w5 ⟨rfl, hb5⟩
               have hbi5 := (hbi.alloc hbs (.cells #[.int .i64 sr, .int .i64 sc] 87)).trans (hb5.mono (by simp; omega))
               have own15 := own_call own1 (((Below.refl _ _).alloc (Nat.le_refl _) (.cells #[.int .i64 sr, .int .i64 sc] 87)).trans (hb5.mono (by simp))))
            | (at_builtin; refine wpList_app byteT rfl (.tmp 40) (.tmp 47) rfl _ j _ rfl wo.heap.size own15 [bv ch] rfl (by simp [Value.oneCell']) rfl (by omega) (by omega) hbi5.size ?_; intro v6 w6 own6 hg6 hat6))
          go_roundw
          case rel => exact ⟨j + 1, by omega, by go_num, own_cast own6 (by rw [hstep.out]; simp) rfl, Below.own hbi5 hbi5.size own15 (Nat.le_refl _) hg6⟩
          case measure => simp [intOf]; omega
        · obtain rfl : j = L.length := by omega
          have own2 := own_cast own1 (by rw [← hSl.out, List.take_length]) hSl.out.symm
          have hcv := run_string_own (P := Tryz.prog) wr 57 9 5 Tryz.underlying57 Tryz.underlying5 Tryz.underlying9 (l := S) own2
          have hjj : ¬ (L.length : Int) < (L.length : Int) := by omega
          obtain ⟨T, hT⟩ : ∃ T, T = lowS S := ⟨_, rfl⟩
          rw [← hT] at klk hWk'
          clear hT hSdef
          have hlit' := hlit T
          go_wp2_with (first
            | (go_at_call 21; refine (klk _).mono ?_; rintro e w5 ⟨rfl, hb5⟩
               have hbi5 := hbi.trans (hb5.mono hbi.size)
               have ow5 := own_call ow3 hbi5
               have hra5 := hra3.below hbi5
               have hM5 := hM3.below hbi5 hM3.lt
               have ow5B := own_call ownB hbi5
               have hw5 := hw3.trans (hbi5.mono hw3.size)
               have hz5 := Nat.le_trans hz3 hbi5.size
               have hwz5 := hw5.size)
            | (at_builtin; refine wpList_app strT1 rfl (.tmp 50) (.tmp 54) rfl _ (k + 1) _ rfl w.heap.size ow5 [sv T] rfl (by simp [Value.oneCell', sv]) rfl (by omega) (by omega) hwz5 ?_; intro v6 w6 own6 hg6 hat6))
          go_roundw
          case rel => exact ⟨k + 1, by omega, by go_num, own_cast own6 (by rw [hWk'.out]; simp) rfl, hra5.grow1 hg6 (hat6.imp id fun e => ⟨_, Nat.le_succ _, e⟩), own_grown ow5B ow5 (by decide) hg6, hM5.grown hg6 (fun h => own_blk_ne ow5 hM5 (by decide) h.symm), Below.own hw5 hwz5 ow5 (Nat.le_refl _) hg6, Nat.le_trans hz5 hg6.size⟩
          case measure => simp [intOf]; omega
    · obtain rfl : k = X.length := by omega
      have hkk : ¬ (X.length : Int) < (X.length : Int) := by omega
      go_wp2_with (fail)
      go_ret
      exact ⟨_, rfl, own_cast ow3 (by rw [← hWl.out, List.take_length]) hWl.out.symm, hw3⟩
end Go.Proofs.YtamdcbbclkobiaaGreatDoor
/-
  Contracts: placed words, main words (layers 3 and 12 of the impl package).
  Conditions: ASCII letters.
-/
namespace Go.Proofs.YtamdcbbclkobiaaGreatDoor
open Go.RowKit RegP RegL RegV
set_option maxHeartbeats 1000000
set_option maxRecDepth 100000

theorem small_low (c : UInt8) : smallB (lowC c) = (smallB c || capB c) := by
  unfold lowC
  cases hc : capB c
  · simp
  · unfold capB at hc
    simp only [Bool.and_eq_true, decide_eq_true_eq] at hc
    simp only [if_true, Bool.or_true]
    unfold smallB
    have h1 : (c + 32).toNat = c.toNat + 32 := by
      rw [UInt8.toNat_add]
      have : (32 : UInt8).toNat = 32 := rfl
      omega
    simp only [Bool.and_eq_true, decide_eq_true_eq]
    omega
theorem word_low (s : Str) : isWordB (lowS s) = placedB s := by
  unfold isWordB placedB lowS
  rw [List.length_map, List.all_map]
  have : (s.all (smallB ∘ lowC)) = s.all (fun c => smallB c || capB c) := by
    congr 1; funext c; exact small_low c
  rw [this]
theorem isPlaced_any (s : Str) (w : World) (hs : s.length ≤ 2 ^ 33) (ha : asciiB s = true) :
    Calls Tryz.prog 160 #[sv s] w fun e w' => e = .returned (.bool (placedB s)) ∧ Below w.heap.size w w' := by
  have k1 : ∀ w, Calls Tryz.prog 41 #[sv s] w fun e w' => e = .returned (sv (lowS s)) ∧ Below w.heap.size w w' := fun w => by
    have h := Tryz.strings_ToLower_ascii ⟨s.toArray⟩ w (by simp [ByteArray.size]; omega) (fun j b hb => by
      have := List.all_eq_true.1 ha b (List.mem_of_getElem? hb)
      simpa using this)
    have hl : (ByteArray.mk s.toArray).data.toList = s := by simp
    rw [hl, toLowerA_low] at h
    exact h
  have hll : (lowS s).length = s.length := by simp [lowS]
  have k2 := fun w => iIsWord_any (lowS s) w (by omega)
  rw [word_low] at k2
  obtain ⟨L, hL⟩ : ∃ L, L = lowS s := ⟨_, rfl⟩
  rw [← hL] at k1 k2 hll
  obtain ⟨R, hR⟩ : ∃ R, R = placedB s := ⟨_, rfl⟩
  rw [← hR] at k2 ⊢
  clear hL hR ha
  have hll' : (L.length : Int) = (s.length : Int) := by omega
  go_enter Tryz.func160, Tryz.ntmps160
  cases R
  · go_wp2_with (first
      | (go_at_call 41; refine (k1 _).mono ?_; rintro e w1 ⟨rfl, hb1⟩)
      | (go_at_call 102; refine (k2 _).mono ?_; rintro e w2 ⟨rfl, hb2⟩))
    go_ret
    exact ⟨rfl, hb1.trans (hb2.mono hb1.size)⟩
  · go_wp2_with (first
      | (go_at_call 102; refine (k2 _).mono ?_; rintro e w2 ⟨rfl, hb2⟩; have hb12 := hb1.trans (hb2.mono hb1.size))
      | (go_at_call 41; refine (k1 _).mono ?_; first | (rintro e w3 ⟨rfl, hb3⟩; have hb13 := hb12.trans (hb3.mono hb12.size)) | rintro e w1 ⟨rfl, hb1⟩))
    go_ret
    exact ⟨ret_bool (by simp), hb13⟩
theorem isMain_any (s : Str) (w : World) (hs : s.length ≤ 2 ^ 33) (ha : asciiB s = true) :
    Calls Tryz.prog 109 #[sv s] w fun e w' => e = .returned (.bool (wordB s)) ∧ Below w.heap.size w w' := by
  have k1 := fun w => isPlaced_any s w hs ha
  have hdef : Hid (wordB s = (decide (1 < s.length) && placedB s)) := Lib.hid rfl
  obtain ⟨W, hW⟩ : ∃ W, W = wordB s := ⟨_, rfl⟩
  obtain ⟨R, hR⟩ : ∃ R, R = placedB s := ⟨_, rfl⟩
  rw [← hW] at hdef ⊢
  rw [← hR] at k1 hdef
  clear hW hR ha
  by_cases h : 1 < s.length
  · have hW : W = R := by rw [hdef.out, decide_eq_true h]; rfl
    subst hW
    have h' : (2 : Int) ≤ (s.length : Int) := by omega
    clear hdef
    go_enter Tryz.func109, Tryz.ntmps109
    go_wp2_with (go_at_call 160; refine (k1 _).mono ?_; rintro e w1 ⟨rfl, hb1⟩)
    go_ret
    exact ⟨rfl, hb1⟩
  · have hW : W = false := by rw [hdef.out, decide_eq_false h]; rfl
    subst hW
    have h' : ¬ (2 : Int) ≤ (s.length : Int) := by omega
    clear hdef
    go_enter Tryz.func109, Tryz.ntmps109
    go_wp2_with (fail)
    go_ret
    exact ⟨rfl, Below.refl _ _⟩
end Go.Proofs.YtamdcbbclkobiaaGreatDoor
