/-
  Contract: the crossings of a play (layer 12 of the impl package); Contract: the words that a play forms (layer 12 of the impl package); Ordered lists of strings in plain Lean: insertion one by one, and sort with compact, give one list: the one that rises and has the same elements; Contracts: whether a lexicon has a word, the wrong words of a play (layers 5 and 12 of the impl package); Contracts: the wrong words of a play (layer 12 of the impl package).
  Conditions: a board of a size from 5 to 15; ASCII letters; all squares of the play are on the board; none; the words of the lexicon increase; its slice reads as a list of strings; as for the words of a play; the words of the lexicon increase.
-/
import Derived.Test.YtdkckikobefekaaGreatDoorM04
import Derived.Test.YtdkckikobefekaaGreatDoorM14
import Derived.Lib.SlicesCompact
import Derived.Test.YtdkckikobefekaaGreatDoorM10
import Derived.Test.YtdkckikobefekaaGreatDoorM13
import Derived.Lib.Builder
import Derived.Lib.UnsafeStr
import Derived.Laws.Externs
import Derived.RegionTactic
import Derived.Laws.Rows
import Derived.Laws.Tables
import Derived.Lib.OthersKept
namespace Go.Proofs.YtdkckikobefekaaGreatDoor
open Go.RowKit RegP RegL RegV
set_option maxHeartbeats 1000000
set_option maxRecDepth 100000
theorem sqsT : SlT Tryz.prog 276 213 (.slice none 0 0) 1 24 := ⟨Tryz.underlying276, by kernel_rfl, rfl, by decide⟩
theorem sequence_any (b : Bd) (d : Bool) (r c : Int) (w : World) (hf : b.Fit) (hin : b.inB r c = true) :
   Calls Tryz.prog 295 #[b.v, sqV r c, dirV d] w fun e w' => ∃ v, e = .returned v ∧ w'.ownsRow w.heap.size 229 2 v (seqL b d r c).length (sqC (seqL b d r c)) ∧ Below w.heap.size w w' := by
 have hl : (seqL b d r c).length = (seqN b d r c).length := by simp [seqL]
 rw [hl]
 cases d
 · exact sequence_false b r c w hf hin
 · exact sequence_true b r c w hf hin
def crossP (b : Bd) (q : Pl) (l : List Nat) : List ((Int × Int) × List (Int × Int)) := ((sqL q l).map fun s => (s, seqL (madeB b q) (!q.down) s.1 s.2)).filter fun x => decide (2 ≤ x.2.length)
theorem crossP_step (b : Bd) (q : Pl) (N : List Nat) (k : Nat) (h : k < N.length) :
   crossP b q (N.take (k + 1)) = if 2 ≤ (seqL (madeB b q) (!q.down) (q.sr N[k]) (q.sc N[k])).length then crossP b q (N.take k) ++ [((q.sr N[k], q.sc N[k]), seqL (madeB b q) (!q.down) (q.sr N[k]) (q.sc N[k]))] else crossP b q (N.take k) := by
 rw [List.take_succ_eq_append_getElem h]
 unfold crossP sqL
 rw [List.map_append, List.map_append, List.filter_append]
 by_cases hh : 2 ≤ (seqL (madeB b q) (!q.down) (q.sr N[k]) (q.sc N[k])).length <;> simp [hh]
theorem crossP_length (b : Bd) (q : Pl) (l : List Nat) : (crossP b q l).length ≤ l.length := by
 unfold crossP
 refine Nat.le_trans (List.length_filter_le _ _) ?_
 simp [sqL]
def RowsAt (w : World) (base : Nat) (v1 : Value) (vs : List Value) (ls : List (List (Int × Int))) : Prop :=
 vs.length = ls.length ∧ ∀ i (h : i < ls.length), ∃ v, vs[i]? = some v ∧ w.ownsRow base 229 2 v ls[i].length (sqC ls[i]) ∧ ∀ k, v.ownBlock = some k → v1.ownBlock ≠ some k
section
variable {w w' : World} {base : Nat} {v1 v1' : Value} {vs : List Value} {ls : List (List (Int × Int))}
theorem RowsAt.below (h : RowsAt w base v1 vs ls) (hb : Below w.heap.size w w') : RowsAt w' base v1 vs ls :=
 ⟨h.1, fun i hi => by
   obtain ⟨v, h1, h2, h3⟩ := h.2 i hi
   exact ⟨v, h1, own_call h2 hb, h3⟩⟩
theorem RowsAt.grow1 (h : RowsAt w base v1 vs ls) (hg : w.grownBy w' v1.ownBlock) (hat : v1'.ownBlock = v1.ownBlock ∨ ∃ k, w.heap.size ≤ k ∧ v1'.ownBlock = some k) : RowsAt w' base v1' vs ls :=
 ⟨h.1, fun i hi => by
   obtain ⟨v, h1, h2, h3⟩ := h.2 i hi
   refine ⟨v, h1, own_keep h2 fun k hk => hg.block k (h2.lt k hk).2 (fun e => h3 k hk e.symm), fun k hk e => ?_⟩
   rcases hat with e1 | ⟨j, hj, e1⟩
   · exact h3 k hk (e1 ▸ e)
   · rw [e1] at e; injection e with e; have := (h2.lt k hk).2; omega⟩
theorem RowsAt.grow2 {base2 e2 size2 n2 : Nat} {v2 : Value} {xs2 : List Value} (h : RowsAt w base v1 vs ls) (h2 : w.ownsRow base2 e2 size2 v2 n2 xs2) (hne : 229 ≠ e2) (hg : w.grownBy w' v2.ownBlock) : RowsAt w' base v1 vs ls :=
 ⟨h.1, fun i hi => by
   obtain ⟨v, h1, h3, h4⟩ := h.2 i hi
   exact ⟨v, h1, own_grown h3 h2 hne hg, h4⟩⟩
theorem RowsAt.snoc (h : RowsAt w base v1 vs ls) {v : Value} {l : List (Int × Int)} (hown : w.ownsRow base 229 2 v l.length (sqC l)) (hne : ∀ k, v.ownBlock = some k → v1.ownBlock ≠ some k) : RowsAt w base v1 (vs ++ [v]) (ls ++ [l]) :=
 ⟨by simp [h.1], fun i hi => by
   by_cases hlt : i < ls.length
   · obtain ⟨u, h1, h2, h3⟩ := h.2 i hlt
     exact ⟨u, by rw [List.getElem?_append_left (by rw [h.1]; exact hlt)]; exact h1, by rw [List.getElem_append_left hlt]; exact h2, h3⟩
   · have e : i = ls.length := by simp at hi; omega
     subst e
     exact ⟨v, by rw [List.getElem?_append_right (by rw [h.1]; exact Nat.le_refl _), h.1]; simp, by simpa using hown, hne⟩⟩
end
theorem madeB_fit {b : Bd} (hf : b.Fit) (q : Pl) : (madeB b q).Fit := ⟨hf.lo, hf.hi, hf.prem, by show ((madeTo b q q.word.length).length : Int) = _; rw [madeTo_length]; exact hf.cells⟩
theorem sqC_get (l : List (Int × Int)) (k : Nat) (h : k < l.length) : (sqC l)[k * 2]? = some (.int .i64 l[k].1) ∧ (sqC l)[k * 2 + 1]? = some (.int .i64 l[k].2) := by
 induction l generalizing k with
 | nil => simp at h
 | cons p r ih =>
   show ([Value.int .i64 p.1, .int .i64 p.2] ++ sqC r)[_]? = _ ∧ ([Value.int .i64 p.1, .int .i64 p.2] ++ sqC r)[_]? = _
   cases k with
   | zero => exact ⟨rfl, rfl⟩
   | succ k =>
     have := ih k (by simpa using h)
     rw [show (k + 1) * 2 = k * 2 + 1 + 1 by omega]
     exact this
theorem Reads.sq {w : World} {B g o : Nat} {l : List (Int × Int)} (h : Reads w B 2 (some ⟨g, o, none⟩) l.length (sqC l)) {k : Nat} (hk : k < l.length) :
   w.cell? ⟨g, o + k * 2, none⟩ = some (.int .i64 l[k].1) ∧ w.cell? ⟨g, o + k * 2 + 1, none⟩ = some (.int .i64 l[k].2) := by
 obtain ⟨ad, e, _, hc⟩ := h.2 (by omega)
 injection e with e
 subst e
 have hadd : ∀ n, (⟨g, o, none⟩ : Addr).add n = ⟨g, o + n, none⟩ := fun n => by unfold Addr.add; split <;> simp_all
 obtain ⟨e0, e1⟩ := sqC_get l k hk
 have h0 := hc (k * 2) _ e0
 have h1 := hc (k * 2 + 1) _ e1
 rw [hadd] at h0 h1
 exact ⟨h0, h1⟩
theorem own_form {w : World} {base e size n : Nat} {v : Value} {xs : List Value} (h : w.ownsRow base e size v n xs) : ∃ A c, v = .slice A n c ∧ n ≤ c ∧ Reads w w.heap.size size A n xs ∧ ∀ ad, A = some ad → ∃ g, ad = ⟨g, 0, none⟩ := by
 rcases h.2 with ⟨rfl, rfl⟩ | ⟨g, cap, cur, rfl, _, _, hc, _⟩
 · exact ⟨none, 0, rfl, Nat.le_refl _, Reads.of_own h, fun _ e => by cases e⟩
 · exact ⟨_, cap, rfl, hc, Reads.of_own h, fun _ e => ⟨g, by injection e with e; exact e.symm⟩⟩
def CrossPost (w : World) (b : Bd) (q : Pl) (e : Ending) (w' : World) : Prop :=
 ∃ v1 v2 vs, e = .returned (.tuple #[v1, v2]) ∧ w'.ownsRow w.heap.size 229 2 v1 (crossP b q (newL b q)).length (sqC ((crossP b q (newL b q)).map (·.1))) ∧ w'.ownsRow w.heap.size 213 1 v2 (crossP b q (newL b q)).length vs ∧ RowsAt w' w.heap.size v1 vs ((crossP b q (newL b q)).map (·.2)) ∧ Below w.heap.size w w'
theorem RowsAt.base {w : World} {base base' : Nat} {v1 : Value} {vs : List Value} {ls : List (List (Int × Int))} (h : RowsAt w base v1 vs ls) (hb : base' ≤ base) : RowsAt w base' v1 vs ls :=
 ⟨h.1, fun i hi => by
   obtain ⟨v, h1, h2, h3⟩ := h.2 i hi
   exact ⟨v, h1, own_base h2 hb, h3⟩⟩
theorem RowsAt.new {w w' : World} {base b2 e e2 size size2 n n2 : Nat} {v v2 : Value} {xs xs2 : List Value} (h : w.ownsRow base e size v n xs) (h2 : w'.ownsRow b2 e2 size2 v2 n2 xs2) (hle : w.heap.size ≤ b2) : ∀ k, v2.ownBlock = some k → v.ownBlock ≠ some k := fun k hk hv => by
 have := (h.lt k hv).2
 have := (h2.lt k hk).1
 omega
theorem crossings_any (b : Bd) (q : Pl) (w : World) (hf : b.Fit) (ha : asciiB q.word = true) (hon : OnQ b q) (hl : q.word.length ≤ 2 ^ 32) (h1 : -400000000000 ≤ q.row) (h2 : q.row ≤ 400000000000) (h3 : -400000000000 ≤ q.col) (h4 : q.col ≤ 400000000000) :
   Calls Tryz.prog 236 #[b.v, q.v] w (CrossPost w b q) := by
 have km := fun w => made_any b q w hf ha hon hl h1 h2 h3 h4
 have kn := fun w => newSquares_any b q w hf ha hl h1 h2 h3 h4
 have hNl := newTo_length b q q.word.length
 change (newL b q).length ≤ _ at hNl
 have hNx := newTo_lt b q q.word.length
 change ∀ x ∈ newL b q, _ at hNx
 have ks : ∀ (k : Nat) (h : k < (newL b q).length) (w : World), Calls Tryz.prog 295 #[(madeB b q).v, sqV (q.sr (newL b q)[k]) (q.sc (newL b q)[k]), dirV (!q.down)] w fun e w' => ∃ v, e = .returned v ∧ w'.ownsRow w.heap.size 229 2 v (seqL (madeB b q) (!q.down) (q.sr (newL b q)[k]) (q.sc (newL b q)[k])).length (sqC (seqL (madeB b q) (!q.down) (q.sr (newL b q)[k]) (q.sc (newL b q)[k]))) ∧ Below w.heap.size w w' :=
   fun k h w => sequence_any (madeB b q) (!q.down) _ _ w (madeB_fit hf q) (hon _ (hNx _ (List.getElem_mem h)))
 have hcr : ∀ (w : World), Calls Tryz.prog (if q.down then 405 else 407) #[.agg #[]] w fun e w' => e = .returned (dirV (!q.down)) ∧ Below w.heap.size w w' := fun w => by
   cases q.down
   · exact cross_right w
   · exact cross_down w
 have hdr := fun w => directionOf_any q.down w
 have hst := fun k h => crossP_step b q (newL b q) k h
 have hcl := fun l => crossP_length b q l
 have hend : Hid (crossP b q (newL b q) = crossP b q ((newL b q).take (newL b q).length)) := Lib.hid (by rw [List.take_length])
 have hsql : Hid (∀ k (h : k < (newL b q).length), (sqL q (newL b q))[k]? = some (q.sr (newL b q)[k], q.sc (newL b q)[k])) := Lib.hid (fun k h => by simp [sqL, List.getElem?_map, List.getElem?_eq_getElem h])
 have hsqn : (sqL q (newL b q)).length = (newL b q).length := by simp [sqL]
 obtain ⟨Ps, hPs⟩ : ∃ Ps, Ps = CrossPost w b q := ⟨_, rfl⟩
 have hPd : Hid (∀ e w', (∃ v1 v2 vs, e = .returned (.tuple #[v1, v2]) ∧ w'.ownsRow w.heap.size 229 2 v1 (crossP b q ((newL b q).take (newL b q).length)).length (sqC ((crossP b q ((newL b q).take (newL b q).length)).map (·.1))) ∧ w'.ownsRow w.heap.size 213 1 v2 (crossP b q ((newL b q).take (newL b q).length)).length vs ∧ RowsAt w' w.heap.size v1 vs ((crossP b q ((newL b q).take (newL b q).length)).map (·.2)) ∧ Below w.heap.size w w') → Ps e w') := Lib.hid (fun e w' h => by rw [hPs]; unfold CrossPost; rw [hend.out]; exact h)
 rw [← hPs]
 obtain ⟨S, hS⟩ : ∃ S, S = fun x : Nat => seqL (madeB b q) (!q.down) (q.sr x) (q.sc x) := ⟨_, rfl⟩
 have hSx : ∀ x : Nat, seqL (madeB b q) (!q.down) (q.sr x) (q.sc x) = S x := fun x => by rw [hS]
 simp only [hSx] at ks hst
 obtain ⟨SQ, hSQ⟩ : ∃ SQ, SQ = sqL q (newL b q) := ⟨_, rfl⟩
 obtain ⟨N, hN⟩ : ∃ N, N = newL b q := ⟨_, rfl⟩
 obtain ⟨CP, hCP⟩ : ∃ CP, CP = crossP b q := ⟨_, rfl⟩
 obtain ⟨M, hM⟩ : ∃ M, M = madeB b q := ⟨_, rfl⟩
 rw [← hSQ] at kn hsql hsqn
 rw [← hN] at kn hNl ks hst hsql hsqn hPd
 rw [← hCP] at hst hPd hcl
 rw [← hM] at km ks
 have hst' := Lib.hid hst
 have hcl' := Lib.hid hcl
 have ks' := Lib.hid ks
 have hsqn' := Lib.hid hsqn
 clear hNx hPs hSx hS hSQ hN hCP hM hst hcl ks hsqn hend ha hon h1 h2 h3 h4 hf
 obtain ⟨sz, bp, bc⟩ := b
 obtain ⟨qr, qc, qd, qw⟩ := q
 obtain ⟨msz, mp, mc⟩ := M
 simp only [Bd.v, Pl.v, sqV] at *
 have hB1 := Blk.new1 w (.cells #[.int .i64 sz, sv bp, sv bc] 41) 61 #[.int .i64 qr, .int .i64 qc, .bool qd, sv qw]
 have hB0 := (Blk.new w 41 #[.int .i64 sz, sv bp, sv bc]).alloc (.cells #[.int .i64 qr, .int .i64 qc, .bool qd, sv qw] 61)
 have hbW := ((Below.refl w.heap.size w).alloc (Nat.le_refl _) (.cells #[.int .i64 sz, sv bp, sv bc] 41)).alloc (by simp) (.cells #[.int .i64 qr, .int .i64 qc, .bool qd, sv qw] 61)
 go_enter Tryz.func236, Tryz.ntmps236
 go_wp2_with (first
   | (go_at_call 99; refine (km _).mono ?_; rintro e w1 ⟨rfl, hb1⟩
      have hD0 := hB0.below hb1 hB0.lt
      have hD1 := hB1.below hb1 hB1.lt
      have hlt1 := hD1.lt
      have hlt0 := hD0.lt
      have c0 : w1.cell? ⟨w.heap.size, 0, none⟩ = some (.int .i64 sz) := hD0.cell 0
      have c1 : w1.cell? ⟨w.heap.size, 1, none⟩ = some (sv bp) := hD0.cell 1
      have c2 : w1.cell? ⟨w.heap.size, 2, none⟩ = some (sv bc) := hD0.cell 2
      have d0 : w1.cell? ⟨w.heap.size + 1, 0, none⟩ = some (.int .i64 qr) := hD1.cell 0
      have d1 : w1.cell? ⟨w.heap.size + 1, 1, none⟩ = some (.int .i64 qc) := hD1.cell 1
      have d2 : w1.cell? ⟨w.heap.size + 1, 2, none⟩ = some (.bool qd) := hD1.cell 2
      have d3 : w1.cell? ⟨w.heap.size + 1, 3, none⟩ = some (sv qw) := hD1.cell 3
      have hne0 : w.heap.size ≠ w1.heap.size := by omega
      have hne1 : w.heap.size + 1 ≠ w1.heap.size := by omega)
   | (go_at_call 157; refine (kn _).mono ?_; rintro e w2 ⟨v1, v2, rfl, ownA, ownB, hb2⟩; obtain ⟨A1, n1, rfl, hn1, hr1, hf1⟩ := own_form ownA; clear ownA ownB))
 have hM2 := (Blk.new w1 41 #[.int .i64 msz, sv mp, sv mc]).below hb2 (by simp)
 have hP2 := (hD1.alloc (.cells #[.int .i64 msz, sv mp, sv mc] 41)).below hb2 (by simp; omega)
 have hw1 := hbW.trans (hb1.mono hbW.size)
 have hw2 := (hw1.alloc hw1.size (.cells #[.int .i64 msz, sv mp, sv mc] 41)).trans (hb2.mono (by have := hw1.size; simp; omega))
 obtain ⟨W, hW⟩ : ∃ W, W = (w2.alloc (.cells #[] 229)).alloc (.cells #[] 213) := ⟨_, rfl⟩
 obtain ⟨B, hBB⟩ : ∃ B, B = w2.heap.size := ⟨_, rfl⟩
 obtain ⟨g6, hg6⟩ : ∃ g6, g6 = w1.heap.size := ⟨_, rfl⟩
 have hwB : w.heap.size ≤ B := by rw [hBB]; exact hw2.size
 have hgB : g6 < B := by rw [hBB, hg6]; exact hM2.lt
 have hpB : w.heap.size + 1 < B := by rw [hBB]; exact hP2.lt
 have hM3 : Blk W g6 41 #[.int .i64 msz, sv mp, sv mc] := by rw [hW, hg6]; exact (hM2.alloc _).alloc _
 have hP3 : Blk W (w.heap.size + 1) 61 #[.int .i64 qr, .int .i64 qc, .bool qd, sv qw] := by rw [hW]; exact (hP2.alloc _).alloc _
 have hw3 : Below w.heap.size w W := by rw [hW]; exact (hw2.alloc hw2.size _).alloc (by have := hw2.size; simp; omega) _
 have hr3 : Reads W B 2 A1 N.length (sqC SQ) := by rw [hW, hBB]; exact (hr1.alloc (Nat.le_refl _) _).alloc (by simp) _
 have hzW : B ≤ W.heap.size := by rw [hW, hBB]; simp; omega
 have hcp0 : Hid (CP (N.take 0) = []) := Lib.hid (List.eq_nil_of_length_eq_zero (by have := hcl'.out (N.take 0); simpa using this))
 have own1 : W.ownsRow B 229 2 (.slice (some ⟨B, 0, none⟩) 0 0) 0 [] := by
   rw [hW, hBB]
   exact (World.ownsRow_lit (base := w2.heap.size) (size := 2) (e := 229) w2 #[] 0 (Nat.le_refl _) (by unfold maxLen; omega) rfl).alloc _
 have own2 : W.ownsRow B 213 1 (.slice (some ⟨B + 1, 0, none⟩) 0 0) 0 [] := by
   rw [hW, hBB]
   have := World.ownsRow_lit (base := w2.heap.size) (size := 1) (e := 213) (w2.alloc (.cells #[] 229)) #[] 0 (by simp) (by unfold maxLen; omega) rfl
   simpa using this
 have hra : RowsAt W B (.slice (some ⟨B, 0, none⟩) 0 0) [] [] := ⟨rfl, fun i h => absurd h (by simp)⟩
 rw [← hW, ← hBB, ← hg6]
 clear hW hBB hg6 hM2 hP2 hw1 hw2 hr1 hb2 hb1 hbW hD0 hD1 c0 c1 c2 d0 d1 d2 d3 hlt0 hlt1 hne0 hne1 hB0 hB1
 go_loopw [9, 10, 27] (fun o1 o2 i wr => ∃ (k : Nat) (vs : List Value), k ≤ N.length ∧ i = .int .i64 k ∧ wr.ownsRow B 229 2 o1 (CP (N.take k)).length (sqC ((CP (N.take k)).map (·.1))) ∧ wr.ownsRow B 213 1 o2 (CP (N.take k)).length vs ∧ RowsAt wr B o1 vs ((CP (N.take k)).map (·.2)) ∧ Blk wr g6 41 #[.int .i64 msz, sv mp, sv mc] ∧ Blk wr (w.heap.size + 1) 61 #[.int .i64 qr, .int .i64 qc, .bool qd, sv qw] ∧ Reads wr B 2 A1 N.length (sqC SQ) ∧ Below w.heap.size w wr ∧ B ≤ wr.heap.size) (fun _ _ i _ => N.length - (intOf i).toNat)
 case atStart => exact ⟨0, [], by omega, rfl, by rw [hcp0.out]; exact own1, by rw [hcp0.out]; exact own2, by rw [hcp0.out]; exact hra, hM3, hP3, hr3, hw3, hzW⟩
 case round =>
   clear own1 own2 hra hM3 hP3 hr3 hw3 hzW hcp0
   obtain ⟨k, vs, hk, rfl, own1, own2, hra, hM3, hP3, hr3, hw3, hz3⟩ := hrel
   by_cases hkl : k < N.length
   · obtain ⟨ad, rfl, hadb, _⟩ := hr3.2 (by omega)
     obtain ⟨g, rfl⟩ := hf1 ad rfl
     have hrd : Reads wr B 2 (some ⟨g, 0, none⟩) SQ.length (sqC SQ) := by rw [hsqn'.out]; exact hr3
     obtain ⟨e0, e1⟩ := hrd.sq (k := k) (by rw [hsqn'.out]; exact hkl)
     have hsk := hsql.out k hkl
     have hsk2 : SQ[k]'(by rw [hsqn'.out]; exact hkl) = (Pl.sr ⟨qr, qc, qd, qw⟩ N[k], Pl.sc ⟨qr, qc, qd, qw⟩ N[k]) := by
       rw [List.getElem?_eq_getElem (by rw [hsqn'.out]; exact hkl)] at hsk; injection hsk
     rw [hsk2] at e0 e1
     simp only [Nat.zero_add] at e0 e1
     have hstep := Lib.hid (hst'.out k hkl)
     have kq := ks'.out k hkl
     have hcl := hcl'.out (N.take k)
     rw [List.length_take] at hcl
     obtain ⟨sr, hsr⟩ : ∃ sr, sr = Pl.sr ⟨qr, qc, qd, qw⟩ N[k] := ⟨_, rfl⟩
     obtain ⟨sc, hsc⟩ : ∃ sc, sc = Pl.sc ⟨qr, qc, qd, qw⟩ N[k] := ⟨_, rfl⟩
     obtain ⟨L, hL⟩ : ∃ L, L = S N[k] := ⟨_, rfl⟩
     rw [← hsr] at e0 kq hstep
     rw [← hsc] at e1 kq hstep
     rw [← hL] at kq hstep
     clear hsr hsc hL hsk hsk2 hrd
     obtain ⟨P0, hP0⟩ : ∃ P0, P0 = CP (N.take k) := ⟨_, rfl⟩
     rw [← hP0] at own1 own2 hra hstep hcl
     clear hP0
     have hPl : P0.length + 1 ≤ 1099511627776 := by omega
     have hgz : g < wr.heap.size := by simp at hadb; omega
     have hkk : (k : Int) < (N.length : Int) := by omega
     clear hcl
     go_wp2_with (fail)
     obtain ⟨W3, hW3⟩ : ∃ W3, W3 = wr.alloc (.cells #[.int .i64 sr, .int .i64 sc] 229) := ⟨_, rfl⟩
     have hSQ : Blk W3 wr.heap.size 229 #[.int .i64 sr, .int .i64 sc] := by rw [hW3]; exact Blk.new _ _ _
     have hb3 : Below wr.heap.size wr W3 := by rw [hW3]; exact (Below.refl _ _).alloc (Nat.le_refl _) _
     rw [← hW3]
     clear hW3
     have hM4 := hM3.below hb3 hM3.lt
     have hP4 := hP3.below hb3 hP3.lt
     have hnil := fun w => nil_cross qd w
     have hmet := fun w => meth_cross qd w
     have hdr' : ∀ w, Calls Tryz.prog 253 #[.bool qd] w fun e w' => e = .returned (.iface (if qd = true then 333 else 334) (.agg #[])) ∧ w = w' := hdr
     have hcr' : ∀ w, Calls Tryz.prog (if qd = true then 405 else 407) #[.agg #[]] w fun e w' => e = .returned (dirV (!qd)) ∧ Below w.heap.size w w' := hcr
     obtain ⟨DV, hDV⟩ : ∃ DV, DV = dirV (!qd) := ⟨_, rfl⟩
     rw [← hDV] at kq hcr'
     clear hDV
     cases qd
     all_goals
       simp only [Bool.false_eq_true, if_false, if_true] at hnil hmet hdr' hcr'
     all_goals
       refine wp_region_l 9 6 (SBel _) (by kernel_rfl) (by kernel_rfl) ((Below.refl _ _).drew) ?_
       simp only [qqT, List.take_zero, qqD, List.drop_zero]
       iterate 6
         apply pl_step rfl
         · intro L w4 hS4 h1 h2 K hK
           clear h1 h2
           have hb4 : Below _ _ w4 := hS4
           clear hS4
           have hSQ4 := hSQ.below hb4 hSQ.lt
           have f0 : w4.cell? ⟨wr.heap.size, 0, none⟩ = some (.int .i64 sr) := hSQ4.cell 0
           have f1 : w4.cell? ⟨wr.heap.size, 1, none⟩ = some (.int .i64 sc) := hSQ4.cell 1
           have hM5 := hM4.below hb4 hM4.lt
           have g0 : w4.cell? ⟨g6, 0, none⟩ = some (.int .i64 msz) := hM5.cell 0
           have g1 : w4.cell? ⟨g6, 1, none⟩ = some (sv mp) := hM5.cell 1
           have g2 : w4.cell? ⟨g6, 2, none⟩ = some (sv mc) := hM5.cell 2
           have d2 : w4.cell? ⟨w.heap.size + 1, 2, none⟩ = some (.bool _) := (hP4.below hb4 hP4.lt).cell 2
           go_wp2_with (first | (go_at_call 253; (with_reducible refine (hdr' _).mono ?_); rintro e w5 ⟨rfl, rfl⟩) | (go_at_call 407; (with_reducible refine (hcr' _).mono ?_); rintro e w5 ⟨rfl, hb5⟩) | (go_at_call 405; (with_reducible refine (hcr' _).mono ?_); rintro e w5 ⟨rfl, hb5⟩))
           all_goals first | exact hb4 | exact hb4.trans (hb5.mono hb4.size) | exact hb4.trans (hd5.below.mono hb4.size)
         simp only [Act.put, qqS, qqC, qqZ]
       refine pl_nil ?_
       intro w4 hS4
       have hb4 : Below _ _ w4 := hS4
       clear hS4
       have hb34 := hb3.trans (hb4.mono hb3.size)
       by_cases h2L : 2 ≤ L.length
       · have h2i : (2 : Int) ≤ (L.length : Int) := by omega
         have hstep2 : Hid (CP (List.take (k + 1) N) = P0 ++ [((sr, sc), L)]) := Lib.hid (by rw [hstep.out, if_pos h2L])
         have hlit := run_lit1 sqT (.agg #[.int .i64 sr, .int .i64 sc]) #[.int .i64 sr, .int .i64 sc] rfl rfl (by omega)
         clear hstep h2L
         go_wp2_with (first
           | (go_at_call 295; refine (kq _).mono ?_; rintro e w5 ⟨v5, rfl, ownL, hb5⟩
              have hb45 := hb34.trans (hb5.mono hb34.size)
              have hSQ5 := (hSQ.below hb4 hSQ.lt).below hb5 (Nat.lt_of_lt_of_le hSQ.lt hb4.size)
              have f0 : w5.cell? ⟨wr.heap.size, 0, none⟩ = some (.int .i64 sr) := hSQ5.cell 0
              have f1 : w5.cell? ⟨wr.heap.size, 1, none⟩ = some (.int .i64 sc) := hSQ5.cell 1
              have hra5 := hra.below hb45
              have own15 := own_call own1 hb45
              have own25 := own_call own2 hb45
              have hM5 := hM3.below hb45 hM3.lt
              have hP5 := hP3.below hb45 hP3.lt
              have hr5 := hr3.below' hb45 hz3
              have hbb := hw3.trans (hb45.mono hw3.size)
              have hz5 := Nat.le_trans hz3 hb45.size
              have hbz := hbb.size
              have hz4 := Nat.le_trans hz3 hb34.size
              have hne := RowsAt.new own1 ownL (Nat.le_trans hb34.size (Nat.le_refl _))
              have hsn := hra5.snoc (own_base ownL hz4) hne
              obtain ⟨A5, n5, rfl, hn5, -, -⟩ := own_form ownL
              clear ownL)
           | (at_builtin; refine wpList_app sqT rfl (.tmp 41) (.tmp 43) rfl _ P0.length _ rfl B own15 [.int .i64 sr, .int .i64 sc] rfl (by simp [Value.oneCell']) rfl hPl (by omega) hz5 ?_; intro v6 w6 own6 hg6 hat6
              have own26 := own_grown own25 own15 (by decide) hg6
              have hz6 := Nat.le_trans hz5 hg6.size
              have hra6 := hsn.grow1 hg6 (hat6.imp id fun e => ⟨_, Nat.le_succ _, e⟩))
           | (at_builtin; refine wpList_app sqsT rfl (.tmp 45) (.tmp 47) rfl _ P0.length _ rfl B own26 [_] rfl (by simp [Value.oneCell']) rfl hPl (by omega) hz6 ?_; intro v7 w7 own7 hg7 hat7
              have hra7 := hra6.grow2 own26 (by decide) hg7))
         go_roundw
         case rel => exact ⟨k + 1, _, by omega, rfl, by rw [hstep2.out]; exact own_cast (own_grown own6 own26 (by decide) hg7) (by simp [sqC_append, sqC_one]) (by simp), by rw [hstep2.out]; exact own_cast own7 rfl (by simp), by rw [hstep2.out, List.map_append]; exact hra7, (hM5.grown hg6 (fun h => own_blk_ne own15 hM5 (by decide) h.symm)).grown hg7 (fun h => own_blk_ne own26 (hM5.grown hg6 (fun h => own_blk_ne own15 hM5 (by decide) h.symm)) (by decide) h.symm), (hP5.grown hg6 (fun h => own_blk_ne own15 hP5 (by decide) h.symm)).grown hg7 (fun h => own_blk_ne own26 (hP5.grown hg6 (fun h => own_blk_ne own15 hP5 (by decide) h.symm)) (by decide) h.symm), (hr5.grown hg6 hz5 (fun k hk => (own15.lt k hk).1)).grown hg7 hz6 (fun k hk => (own26.lt k hk).1), Below.own (Below.own hbb hbz own15 (by omega) hg6) (by omega) own26 (by omega) hg7, Nat.le_trans hz6 hg7.size⟩
         case measure => simp only [intOf]; omega
       · have h2i : ¬ (2 : Int) ≤ (L.length : Int) := by omega
         have hstep2 : Hid (CP (List.take (k + 1) N) = P0) := Lib.hid (by rw [hstep.out, if_neg h2L])
         clear hstep h2L
         go_wp2_with (first
           | (go_at_call 295; refine (kq _).mono ?_; rintro e w5 ⟨v5, rfl, ownL, hb5⟩
              have hb45 := hb34.trans (hb5.mono hb34.size)
              have hra5 := hra.below hb45
              have own15 := own_call own1 hb45
              have own25 := own_call own2 hb45
              have hM5 := hM3.below hb45 hM3.lt
              have hP5 := hP3.below hb45 hP3.lt
              have hr5 := hr3.below' hb45 hz3
              have hbb := hw3.trans (hb45.mono hw3.size)
              have hz5 := Nat.le_trans hz3 hb45.size
              obtain ⟨A5, n5, rfl, hn5, -, -⟩ := own_form ownL
              clear ownL))
         go_roundw
         case rel => exact ⟨k + 1, vs, by omega, rfl, by rw [hstep2.out]; exact own15, by rw [hstep2.out]; exact own25, by rw [hstep2.out]; exact hra5, hM5, hP5, hr5, hbb, hz5⟩
         case measure => simp only [intOf]; omega
   · obtain rfl : k = N.length := by omega
     have hkk : ¬ (N.length : Int) < (N.length : Int) := by omega
     go_wp2_with (fail)
     exact hPd.out _ _ ⟨_, _, vs, rfl, own_base own1 hwB, own_base own2 hwB, hra.base hwB, hw3⟩
def sqW (M : Bd) (l : List (Int × Int)) : Str := l.map fun s => M.cell s.1 s.2
def crossW (b : Bd) (q : Pl) : List Str := (crossP b q (newL b q)).map fun x => lowS (sqW (madeB b q) x.2)
def wordsI (b : Bd) (q : Pl) : List Str := lowS q.word :: crossW b q
theorem strT1 : SlT Tryz.prog 22 9 (.string ⟨#[]⟩) 1 16 := ⟨Tryz.underlying22, by kernel_rfl, rfl, by decide⟩
theorem asciiB_getD {s : Str} (h : asciiB s = true) (k : Nat) : (s.getD k 0).toNat < 128 := by
 rw [List.getD_eq_getElem?_getD]
 rcases Nat.lt_or_ge k s.length with hk | hk
 · rw [List.getElem?_eq_getElem hk]
   have := List.all_eq_true.1 h _ (List.getElem_mem hk)
   simpa using this
 · rw [List.getElem?_eq_none hk]; decide
theorem madeTo_ascii {b : Bd} {q : Pl} (hb : asciiB b.cells = true) (hq : asciiB q.word = true) : ∀ k, asciiB (madeTo b q k) = true
 | 0 => hb
 | k + 1 => by
   rw [madeTo_succ]
   refine List.all_eq_true.2 fun c hc => ?_
   rcases List.mem_or_eq_of_mem_set hc with h | h
   · exact List.all_eq_true.1 (madeTo_ascii hb hq k) c h
   · subst h; simpa using asciiB_getD hq k
theorem sqW_ascii {M : Bd} (hM : asciiB M.cells = true) (l : List (Int × Int)) : asciiB (sqW M l) = true := by
 refine List.all_eq_true.2 fun c hc => ?_
 obtain ⟨s, _, rfl⟩ := List.mem_map.1 hc
 unfold Bd.cell
 split
 · simpa [Bd.at_] using asciiB_getD hM _
 · decide
theorem seqGo_length (b : Bd) (d : Bool) (r c : Int) : ∀ f n, (seqGo b d r c f n).length ≤ f
 | 0, _ => Nat.le_refl _
 | f + 1, n => by
   unfold seqGo
   split
   · have := seqGo_length b d r c f (n + 1); simp; omega
   · simp
theorem crossP_seq (b : Bd) (q : Pl) (l : List Nat) : ∀ x ∈ crossP b q l, x.2.length ≤ 32 := fun x hx => by
 obtain ⟨s, _, rfl⟩ := List.mem_map.1 (List.mem_filter.1 hx).1
 simpa [seqL, seqN] using seqGo_length (madeB b q) (!q.down) s.1 s.2 32 _
theorem RowsAt.at_ {w : World} {base : Nat} {v1 : Value} {vs : List Value} {ls : List (List (Int × Int))} (h : RowsAt w base v1 vs ls) {k : Nat} (hk : k < ls.length) :
   ∃ A n c, vs[k]? = some (.slice A n c) ∧ n = ls[k].length ∧ n ≤ c ∧ Reads w w.heap.size 2 A ls[k].length (sqC ls[k]) ∧ ∀ ad, A = some ad → ∃ g, ad = ⟨g, 0, none⟩ := by
 obtain ⟨v, h1, h2, _⟩ := h.2 k hk
 obtain ⟨A, c, rfl, h4, h5, h6⟩ := own_form h2
 exact ⟨A, _, c, h1, rfl, h4, h5, h6⟩
theorem RowsAt.for_ {w : World} {base : Nat} {v1 v2 : Value} {vs : List Value} {ls : List (List (Int × Int))} (h : RowsAt w base v1 vs ls) (hv : ∀ k, v2.ownBlock = some k → k < base) : RowsAt w base v2 vs ls :=
 ⟨h.1, fun i hi => by
   obtain ⟨v, h1, h2, _⟩ := h.2 i hi
   refine ⟨v, h1, h2, fun k hk e => ?_⟩
   have := (h2.lt k hk).1
   have := hv k e
   omega⟩
theorem wordsFormed_any (b : Bd) (q : Pl) (w : World) (hf : b.Fit) (hba : asciiB b.cells = true) (ha : asciiB q.word = true) (hon : OnQ b q) (hl : q.word.length ≤ 2 ^ 32) (h1 : -400000000000 ≤ q.row) (h2 : q.row ≤ 400000000000) (h3 : -400000000000 ≤ q.col) (h4 : q.col ≤ 400000000000) :
   Calls Tryz.prog 159 #[b.v, q.v] w fun e w' => ∃ v, e = .returned v ∧ w'.ownsRow w.heap.size 9 1 v (wordsI b q).length ((wordsI b q).map sv) ∧ Below w.heap.size w w' := by
 have km := fun w => made_any b q w hf ha hon hl h1 h2 h3 h4
 have kx : ∀ w, Calls Tryz.prog 236 #[b.v, q.v] w fun e w' => ∃ v1 v2 vs, e = .returned (.tuple #[v1, v2]) ∧ w'.ownsRow w.heap.size 229 2 v1 (crossP b q (newL b q)).length (sqC ((crossP b q (newL b q)).map (·.1))) ∧ w'.ownsRow w.heap.size 213 1 v2 (crossP b q (newL b q)).length vs ∧ RowsAt w' w.heap.size v1 vs ((crossP b q (newL b q)).map (·.2)) ∧ Below w.heap.size w w' :=
   fun w => crossings_any b q w hf ha hon hl h1 h2 h3 h4
 have kl := fun w => lower_any q.word w (by omega) ha
 have hMa := madeTo_ascii hba ha q.word.length
 have kc := fun (r c : Int) w => cell_any (madeB b q) r c w (madeB_fit hf q)
 have hsl := crossP_seq b q (newL b q)
 have hCl := crossP_length b q (newL b q)
 have hNl := newTo_length b q q.word.length
 change (newL b q).length ≤ _ at hNl
 have hWl : Hid ((wordsI b q).length = (crossP b q (newL b q)).length + 1) := Lib.hid (by simp [wordsI, crossW])
 have hW0 : Hid ((wordsI b q).take 1 = [lowS q.word]) := Lib.hid rfl
 have hWk : Hid (∀ k (h : k < (crossP b q (newL b q)).length), (wordsI b q).take (k + 1 + 1) = (wordsI b q).take (k + 1) ++ [lowS (sqW (madeB b q) (crossP b q (newL b q))[k].2)]) := Lib.hid (fun k h => by
   have hlt : k + 1 < (wordsI b q).length := by rw [hWl.out]; omega
   rw [List.take_succ_eq_append_getElem hlt]
   simp [wordsI, crossW])
 have klw : Hid (∀ k (h : k < (crossP b q (newL b q)).length) w, Calls Tryz.prog 235 #[sv (sqW (madeB b q) (crossP b q (newL b q))[k].2)] w fun e w' => e = .returned (sv (lowS (sqW (madeB b q) (crossP b q (newL b q))[k].2))) ∧ Below w.heap.size w w') := Lib.hid (fun k h w => lower_any _ w (by
   have := hsl _ (List.getElem_mem h)
   rw [sqW, List.length_map]; omega) (sqW_ascii hMa _))
 have hsl' : Hid (∀ k (h : k < (crossP b q (newL b q)).length), (crossP b q (newL b q))[k].2.length ≤ 32) := Lib.hid (fun k h => hsl _ (List.getElem_mem h))
 obtain ⟨WI, hWI⟩ : ∃ WI, WI = wordsI b q := ⟨_, rfl⟩
 obtain ⟨X, hX⟩ : ∃ X, X = crossP b q (newL b q) := ⟨_, rfl⟩
 obtain ⟨M, hM⟩ : ∃ M, M = madeB b q := ⟨_, rfl⟩
 obtain ⟨Q, hQ⟩ : ∃ Q, Q = lowS q.word := ⟨_, rfl⟩
 rw [← hWI] at hWl hW0 hWk ⊢
 rw [← hX] at kx hCl hWl hWk klw hsl'
 rw [← hM] at km kc hWk klw
 rw [← hQ] at kl hW0
 clear hWI hX hM hQ hsl hMa hf hba ha hon h1 h2 h3 h4
 have hXl : X.length ≤ 2 ^ 32 := by omega
 clear hCl hNl
 obtain ⟨sz, bp, bc⟩ := b
 obtain ⟨qr, qc, qd, qw⟩ := q
 obtain ⟨msz, mp, mc⟩ := M
 simp only [Bd.v, Pl.v] at *
 have hB1 := Blk.new1 w (.cells #[.int .i64 sz, sv bp, sv bc] 41) 61 #[.int .i64 qr, .int .i64 qc, .bool qd, sv qw]
 have hB0 := (Blk.new w 41 #[.int .i64 sz, sv bp, sv bc]).alloc (.cells #[.int .i64 qr, .int .i64 qc, .bool qd, sv qw] 61)
 have hbW := ((Below.refl w.heap.size w).alloc (Nat.le_refl _) (.cells #[.int .i64 sz, sv bp, sv bc] 41)).alloc (by simp) (.cells #[.int .i64 qr, .int .i64 qc, .bool qd, sv qw] 61)
 have hlit := fun s => run_lit1 strT1 (sv s) #[sv s] rfl rfl (by omega)
 go_enter Tryz.func159, Tryz.ntmps159
 go_wp2_with (first
   | (go_at_call 99; refine (km _).mono ?_; rintro e w1 ⟨rfl, hb1⟩
      have hD0 := hB0.below hb1 hB0.lt
      have hD1 := hB1.below hb1 hB1.lt
      have hlt1 := hD1.lt
      have d3 : w1.cell? ⟨w.heap.size + 1, 3, none⟩ = some (sv qw) := hD1.cell 3
      have hne1 : w.heap.size + 1 ≠ w1.heap.size := by omega)
   | (go_at_call 235; refine (kl _).mono ?_; rintro e w2 ⟨rfl, hb2⟩
      have hM2 := (Blk.new w1 41 #[.int .i64 msz, sv mp, sv mc]).below hb2 (by simp)
      have hP2 := (hD1.alloc (.cells #[.int .i64 msz, sv mp, sv mc] 41)).below hb2 (by simp; omega)
      have hQ2 := (hD0.alloc (.cells #[.int .i64 msz, sv mp, sv mc] 41)).below hb2 (by simp; have := hD0.lt; omega)
      have hw1 := hbW.trans (hb1.mono hbW.size)
      have hw2 := (hw1.alloc hw1.size (.cells #[.int .i64 msz, sv mp, sv mc] 41)).trans (hb2.mono (by have := hw1.size; simp; omega))
      have ow2 := World.ownsRow_lit (base := w.heap.size) (size := 1) (e := 9) w2 #[sv Q] 1 hw2.size (by unfold maxLen; omega) rfl
      have lt0 := hQ2.lt
      have lt1 := hP2.lt
      have x0 : w2.cell? ⟨w.heap.size, 0, none⟩ = some (.int .i64 sz) := hQ2.cell 0
      have x1 : w2.cell? ⟨w.heap.size, 1, none⟩ = some (sv bp) := hQ2.cell 1
      have x2 : w2.cell? ⟨w.heap.size, 2, none⟩ = some (sv bc) := hQ2.cell 2
      have d0 : w2.cell? ⟨w.heap.size + 1, 0, none⟩ = some (.int .i64 qr) := hP2.cell 0
      have d1 : w2.cell? ⟨w.heap.size + 1, 1, none⟩ = some (.int .i64 qc) := hP2.cell 1
      have d2 : w2.cell? ⟨w.heap.size + 1, 2, none⟩ = some (.bool qd) := hP2.cell 2
      have d3' : w2.cell? ⟨w.heap.size + 1, 3, none⟩ = some (sv qw) := hP2.cell 3)
   | (go_at_call 236; refine (kx _).mono ?_; rintro e w3 ⟨v1, v2, vs, rfl, ownA, ownB, hra, hb3⟩; obtain ⟨A2, n2, rfl, hn2, -, -⟩ := own_form ownB; clear ownA))
 have ow3 := own_call ow2 (hb3.mono (by simp))
 have hM3 := (hM2.alloc (.cells #[sv Q] 9)).below hb3 (by simp; have := hM2.lt; omega)
 have hw3 := (hw2.alloc hw2.size (.cells #[sv Q] 9)).trans (hb3.mono (by have := hw2.size; simp; omega))
 have hra3 := RowsAt.for_ (v2 := .slice (some ⟨w2.heap.size, 0, none⟩) 1 1) hra (fun k hk => by
   simp only [Value.ownBlock, Option.some.injEq] at hk
   simp; omega)
 obtain ⟨B, hBB⟩ : ∃ B, B = (w2.alloc (.cells #[sv Q] 9)).heap.size := ⟨_, rfl⟩
 have hB3 : B ≤ w3.heap.size := by rw [hBB]; exact hb3.size
 have hgB : w1.heap.size < B := by rw [hBB]; have := hM2.lt; simp; omega
 have hwB : w.heap.size ≤ B := by rw [hBB]; have := hw2.size; simp; omega
 obtain ⟨g2, hg2⟩ : ∃ g2, g2 = w2.heap.size := ⟨_, rfl⟩
 rw [← hBB] at hra3 ownB
 rw [← hg2] at ow3 hra3 ⊢
 obtain ⟨g1, hg1⟩ : ∃ g1, g1 = w1.heap.size := ⟨_, rfl⟩
 rw [← hg1] at hM3 hgB ⊢
 clear hD0 hD1 hlt1 d3 hne1 hM2 hP2 hQ2 hw1 hw2 ow2 lt0 lt1 x0 x1 x2 d0 d1 d2 d3' hB0 hB1 hbW hra hBB hb2 hb1 hg2 hg1 hb3
 go_loopw [6, 29] (fun o i wr => ∃ k : Nat, k ≤ X.length ∧ i = .int .i64 k ∧ wr.ownsRow w.heap.size 9 1 o (k + 1) ((WI.take (k + 1)).map sv) ∧ RowsAt wr B o vs (X.map (·.2)) ∧ wr.ownsRow B 213 1 (.slice A2 X.length n2) X.length vs ∧ Blk wr g1 41 #[.int .i64 msz, sv mp, sv mc] ∧ Below w.heap.size w wr ∧ w3.heap.size ≤ wr.heap.size) (fun _ i _ => X.length - (intOf i).toNat)
 case atStart => exact ⟨0, by omega, rfl, own_cast ow3 (by rw [hW0.out]; rfl) rfl, hra3, ownB, hM3, hw3, Nat.le_refl _⟩
 case round =>
   clear ow3 hra3 ownB hM3 hw3
   obtain ⟨k, hk, rfl, ow3, hra3, ownB, hM3, hw3, hz3⟩ := hrel
   have hr2 := Reads.of_own ownB
   by_cases hkl : k < X.length
   · obtain ⟨ad, u, rfl, hadb, hvk, hc3⟩ := hr2.at_ hkl
     obtain ⟨A, n, c, hvk2, hn, hnc, hrd, hf⟩ := hra3.at_ (k := k) (by simpa using hkl)
     rw [hvk] at hvk2
     obtain rfl : u = .slice A n c := by injection hvk2
     simp only [List.getElem_map] at hn hrd
     have hWk' := Lib.hid (hWk.out k hkl)
     have hll := hsl'.out k hkl
     have klk := klw.out k hkl
     obtain ⟨L, hL⟩ : ∃ L, L = X[k].2 := ⟨_, rfl⟩
     rw [← hL] at hn hrd hWk' hll klk
     clear hL hvk hvk2
     subst hn
     have hkk : (k : Int) < (X.length : Int) := by omega
     have hadz : ad.block < wr.heap.size := hadb
     have hMlt := hM3.lt
     clear hadb
     go_wp2_with (fail)
     obtain ⟨wo, hwo⟩ : ∃ wo, wo = wr := ⟨_, rfl⟩
     subst hwo
     obtain ⟨W, hW⟩ : ∃ W, W = wo.alloc (.cells #[] 5) := ⟨_, rfl⟩
     have hbW : Below wo.heap.size wo W := by rw [hW]; exact (Below.refl _ _).alloc (Nat.le_refl _) _
     have own0 : W.ownsRow wo.heap.size 5 1 (.slice (some ⟨wo.heap.size, 0, none⟩) 0 0) 0 [] := by rw [hW]; exact World.ownsRow_lit (base := wo.heap.size) (size := 1) (e := 5) wo #[] 0 (Nat.le_refl _) (by unfold maxLen; omega) rfl
     rw [← hW]
     clear hW
     have hSdef : Hid (∀ j (h : j < L.length), (sqW ⟨msz, mp, mc⟩ L).take (j + 1) = (sqW ⟨msz, mp, mc⟩ L).take j ++ [Bd.cell ⟨msz, mp, mc⟩ L[j].1 L[j].2]) := Lib.hid (fun j h => by
       have hlt : j < (sqW ⟨msz, mp, mc⟩ L).length := by rw [sqW, List.length_map]; exact h
       rw [List.take_succ_eq_append_getElem hlt]
       simp [sqW])
     have hSl : Hid ((sqW ⟨msz, mp, mc⟩ L).length = L.length) := Lib.hid (by rw [sqW, List.length_map])
     obtain ⟨S, hS⟩ : ∃ S, S = sqW ⟨msz, mp, mc⟩ L := ⟨_, rfl⟩
     rw [← hS] at hSdef hSl hWk' klk
     clear hS
     go_loopw [11, 36] (fun o i wr => ∃ j : Nat, j ≤ L.length ∧ i = .int .i64 j ∧ wr.ownsRow wo.heap.size 5 1 o j ((S.take j).map bv) ∧ Below wo.heap.size wo wr) (fun _ i _ => L.length - (intOf i).toNat)
     case atStart => exact ⟨0, by omega, rfl, own0, hbW⟩
     case round =>
       clear own0 hbW
       obtain ⟨j, hj, rfl, own1, hbi⟩ := hrel
       by_cases hjl : j < L.length
       · have hri := hrd.below hbi
         obtain ⟨ad2, rfl, hadb, _⟩ := hri.2 (by omega)
         obtain ⟨g, rfl⟩ := hf ad2 rfl
         obtain ⟨e0, e1⟩ := hri.sq (k := j) hjl
         simp only [Nat.zero_add] at e0 e1
         have hstep := Lib.hid (hSdef.out j hjl)
         obtain ⟨sr, hsr⟩ : ∃ sr, sr = L[j].1 := ⟨_, rfl⟩
         obtain ⟨sc, hsc⟩ : ∃ sc, sc = L[j].2 := ⟨_, rfl⟩
         rw [← hsr] at e0 hstep
         rw [← hsc] at e1 hstep
         clear hsr hsc
         have hgz : g < wr.heap.size := by simp at hadb; have := hbi.size; omega
         have hjj : (j : Int) < (L.length : Int) := by omega
         have hMi := hM3.below hbi hMlt
         have hMz := hMi.lt
         have c0 : wr.cell? ⟨g1, 0, none⟩ = some (.int .i64 msz) := hMi.cell 0
         have c1 : wr.cell? ⟨g1, 1, none⟩ = some (sv mp) := hMi.cell 1
         have c2 : wr.cell? ⟨g1, 2, none⟩ = some (sv mc) := hMi.cell 2
         have kcc := fun w => kc sr sc w
         obtain ⟨ch, hch⟩ : ∃ ch, ch = Bd.cell ⟨msz, mp, mc⟩ sr sc := ⟨_, rfl⟩
         rw [← hch] at kcc hstep
         clear hch
         have hbs := hbi.size
         clear hri hrd
         go_wp2_with (first
           | (go_at_call 233; refine (kcc _).mono ?_; rintro e w5 ⟨rfl, hb5⟩
              have hbi5 := (hbi.alloc hbs (.cells #[.int .i64 sr, .int .i64 sc] 229)).trans (hb5.mono (by simp; omega))
              have own15 := own_call own1 (((Below.refl _ _).alloc (Nat.le_refl _) (.cells #[.int .i64 sr, .int .i64 sc] 229)).trans (hb5.mono (by simp))))
           | (at_builtin; refine wpList_app byteT rfl (.tmp 40) (.tmp 47) rfl _ j _ rfl wo.heap.size own15 [bv ch] rfl (by simp [Value.oneCell']) rfl (by omega) (by omega) hbi5.size ?_; intro v6 w6 own6 hg6 hat6))
         go_roundw
         case rel => exact ⟨j + 1, by omega, by go_num, own_cast own6 (by rw [hstep.out]; simp) rfl, Below.own hbi5 hbi5.size own15 (Nat.le_refl _) hg6⟩
         case measure => simp [intOf]; omega
       · obtain rfl : j = L.length := by omega
         have own2 := own_cast own1 (by rw [← hSl.out, List.take_length]) hSl.out.symm
         have hcv := run_string_own (P := Tryz.prog) wr 209 9 5 Tryz.underlying209 Tryz.underlying5 Tryz.underlying9 (l := S) own2
         have hjj : ¬ (L.length : Int) < (L.length : Int) := by omega
         obtain ⟨T, hT⟩ : ∃ T, T = lowS S := ⟨_, rfl⟩
         rw [← hT] at klk hWk'
         clear hT hSdef
         have hlit' := hlit T
         go_wp2_with (first
           | (go_at_call 235; refine (klk _).mono ?_; rintro e w5 ⟨rfl, hb5⟩
              have hbi5 := hbi.trans (hb5.mono hbi.size)
              have ow5 := own_call ow3 hbi5
              have hra5 := hra3.below hbi5
              have hM5 := hM3.below hbi5 hM3.lt
              have ow5B := own_call ownB hbi5
              have hw5 := hw3.trans (hbi5.mono hw3.size)
              have hz5 := Nat.le_trans hz3 hbi5.size
              have hwz5 := hw5.size)
           | (at_builtin; refine wpList_app strT1 rfl (.tmp 50) (.tmp 54) rfl _ (k + 1) _ rfl w.heap.size ow5 [sv T] rfl (by simp [Value.oneCell', sv]) rfl (by omega) (by omega) hwz5 ?_; intro v6 w6 own6 hg6 hat6))
         go_roundw
         case rel => exact ⟨k + 1, by omega, by go_num, own_cast own6 (by rw [hWk'.out]; simp) rfl, hra5.grow1 hg6 (hat6.imp id fun e => ⟨_, Nat.le_succ _, e⟩), own_grown ow5B ow5 (by decide) hg6, hM5.grown hg6 (fun h => own_blk_ne ow5 hM5 (by decide) h.symm), Below.own hw5 hwz5 ow5 (Nat.le_refl _) hg6, Nat.le_trans hz5 hg6.size⟩
         case measure => simp [intOf]; omega
   · obtain rfl : k = X.length := by omega
     have hkk : ¬ (X.length : Int) < (X.length : Int) := by omega
     go_wp2_with (fail)
     go_ret
     exact ⟨_, rfl, own_cast ow3 (by rw [← hWl.out, List.take_length]) hWl.out.symm, hw3⟩
end Go.Proofs.YtdkckikobefekaaGreatDoor
namespace Go.Proofs.YtdkckikobefekaaGreatDoor
theorem bytesLess_iff : ∀ (x y : List UInt8), Op.bytesLess x y = decide (x < y)
 | [], [] => by simp [Op.bytesLess]
 | _ :: _, [] => by simp [Op.bytesLess]
 | [], _ :: _ => by simp [Op.bytesLess]
 | a :: x, b :: y => by
   rw [Op.bytesLess, bytesLess_iff x y]
   simp only [List.cons_lt_cons_iff]
   by_cases h1 : a < b <;> by_cases h2 : a = b <;> by_cases h3 : x < y <;> simp [h1, h2, h3]
theorem sLt_iff (a b : Str) : sLt a b = true ↔ a < b := by rw [sLt, bytesLess_iff]; exact decide_eq_true_iff
theorem sLt_no (a b : Str) : sLt a b = false ↔ b ≤ a := by rw [sLt, bytesLess_iff, decide_eq_false_iff_not, List.not_lt]
end Go.Proofs.YtdkckikobefekaaGreatDoor
namespace Go.Proofs.YtdkckikobefekaaGreatDoor
open Go.RowKit RegP RegL RegV
set_option maxHeartbeats 1000000
set_option maxRecDepth 100000
theorem incB_pw : ∀ ws : List Str, incB ws = true → ws.Pairwise (fun a b => a < b)
 | [], _ => .nil
 | [_], _ => by simp
 | a :: b :: r, h => by
   rw [incB, Bool.and_eq_true] at h
   have ih := incB_pw (b :: r) h.2
   have hab := (sLt_iff a b).1 h.1
   refine .cons (fun x hx => ?_) ih
   rcases List.mem_cons.1 hx with rfl | hx
   · exact hab
   · exact List.lt_trans hab ((List.pairwise_cons.1 ih).1 x hx)
theorem firstK_lt : ∀ (ws : List Str) (s : Str) (t : Nat), t < firstK ws s → sLt (ws.getD t []) s = true
 | [], _, t, h => absurd h (Nat.not_lt_zero t)
 | x :: r, s, t, h => by
   rw [firstK] at h
   cases hx : sLt x s <;> rw [hx] at h
   · simp at h
   · cases t with
     | zero => simpa using hx
     | succ t => simpa using firstK_lt r s t (by simp at h; omega)
theorem firstK_ge : ∀ (ws : List Str) (s : Str), ws.Pairwise (fun a b => a < b) → ∀ t, firstK ws s ≤ t → t < ws.length → sLt (ws.getD t []) s = false
 | [], _, _, t, _, h => absurd h (Nat.not_lt_zero t)
 | x :: r, s, hp, t, h, hl => by
   rw [firstK] at h
   cases hx : sLt x s <;> rw [hx] at h
   · cases t with
     | zero => simpa using hx
     | succ t =>
       have hm : r.getD t [] ∈ r := by
         have h2 : t < r.length := by simpa using hl
         rw [List.getD_eq_getElem?_getD, List.getElem?_eq_getElem h2]; exact List.getElem_mem h2
       have := (List.pairwise_cons.1 hp).1 _ hm
       simp only [List.getD_cons_succ]
       rw [sLt_no] at hx ⊢
       exact List.le_of_lt (List.lt_of_le_of_lt hx this)
   · cases t with
     | zero => simp at h
     | succ t => simpa using firstK_ge r s (List.pairwise_cons.1 hp).2 t (by simp at h; omega) (by simpa using hl)
theorem bs_hasB (ws : List Str) (s : Str) (hi : incB ws = true) :
   Lib.bsGo (fun t => sLt (ws.getD t []) s) ws.length 0 ws.length = firstK ws s := by
 have hg : ∀ f lo hi, hi ≤ ws.length → Lib.bsGo (fun t => sLt (ws.getD t []) s) f lo hi = Lib.bsGo (fun t => decide (t < firstK ws s)) f lo hi := by
   intro f
   induction f with
   | zero => intros; rfl
   | succ f ih =>
     intro lo hi hle
     unfold Lib.bsGo
     by_cases h : lo < hi
     · rw [if_pos h, if_pos h]
       have he : sLt (ws.getD ((lo + hi) / 2) []) s = decide ((lo + hi) / 2 < firstK ws s) := by
         by_cases hk : (lo + hi) / 2 < firstK ws s
         · rw [firstK_lt _ _ _ hk, decide_eq_true hk]
         · rw [firstK_ge _ _ (incB_pw ws ‹_›) _ (by omega) (by omega), decide_eq_false hk]
       simp only [he]
       rw [ih _ _ hle, ih _ _ (by omega)]
     · rw [if_neg h, if_neg h]
 rw [hg _ _ _ (Nat.le_refl _)]
 exact Lib.bsGo_spec _ (firstK ws s) (fun t h => by simpa using h) (fun t h => by simpa using h) _ _ _ (by omega) (by omega) (firstK_le ws s)
def Plain0 (A : Option Addr) : Prop := ∀ ad, A = some ad → ad = ⟨ad.block, ad.off, none⟩
theorem plain_add {ad : Addr} (hp : ad = ⟨ad.block, ad.off, none⟩) (j : Nat) : ad.add j = ⟨ad.block, ad.off + j, none⟩ := by
 obtain ⟨b, o, x⟩ := ad
 injection hp with _ _ hx
 subst hx
 show (⟨b, o, none⟩ : Addr).add j = ⟨b, o + j, none⟩
 unfold Addr.add; split <;> simp_all
theorem iHas_any (A : Option Addr) (c : Nat) (ws : List Str) (s : Str) (w : World) (hr : Reads w w.heap.size 1 A ws.length (ws.map sv)) (hA : Plain0 A) (hi : incB ws = true) (hn : ws.length ≤ 2 ^ 32) :
   Calls Tryz.prog 239 #[.agg #[.slice A ws.length c], sv s] w fun e w' => e = .returned (.bool (hasB ws s)) ∧ Below w.heap.size w w' := by
 have hbs := bs_hasB ws s hi
 have hdef : hasB ws s = (ws[firstK ws s]? == some s) := rfl
 have hle := firstK_le ws s
 have key : ∀ W, Below w.heap.size w W → Calls Tryz.prog 296 #[.slice A ws.length c, sv s] W fun e w' => (∃ k : Int, e = .returned (.tuple #[.int .i64 k, .bool (hasB ws s)])) ∧ Below W.heap.size W w' := by
   intro W hW
   rcases Nat.eq_zero_or_pos ws.length with h0 | h0
   · have h := Any2.slices_BinarySearch_string_empty Tryz.searchS A c ⟨s.toArray⟩ W
     rw [h0]
     refine Calls.mono h ?_
     rintro e w' ⟨rfl, rfl⟩
     have : ws = [] := List.eq_nil_of_length_eq_zero h0
     subst this
     exact ⟨⟨0, rfl⟩, Below.refl _ _⟩
   · obtain ⟨ad, rfl, _, hc⟩ := hr.2 h0
     have hp := hA ad rfl
     have h := Any2.slices_BinarySearch_string Tryz.searchS ad.block ad.off ws.length c (fun t => ⟨(ws.getD t []).toArray⟩) ⟨s.toArray⟩ W (by omega) (fun j hj => by
       have h1 := hc j (sv ws[j]) (by rw [List.getElem?_map, List.getElem?_eq_getElem hj]; rfl)
       rw [← hW.cell (by rw [block_of_add]; assumption)] at h1
       have e : ad.add j = ⟨ad.block, ad.off + j, none⟩ := plain_add hp j
       rw [e] at h1
       rw [h1]
       simp [List.getD_eq_getElem?_getD, List.getElem?_eq_getElem hj, sv])
     rw [← hp] at h
     have hlt : ∀ x : Str, (ByteArray.mk x.toArray).toList = x := fun x => by rw [Lib.toList_data]
     simp only [hlt] at h
     have hbs' : Lib.bsGo (fun t => Op.bytesLess (ws.getD t []) s) ws.length 0 ws.length = firstK ws s := hbs
     rw [hbs'] at h
     refine Calls.mono h ?_
     rintro e w' ⟨rfl, q, rfl⟩
     refine ⟨⟨(firstK ws s : Int), ?_⟩, ?_⟩
     · have hd : decide (firstK ws s < ws.length ∧ ByteArray.mk (ws.getD (firstK ws s) []).toArray = ByteArray.mk s.toArray) = hasB ws s := by
         rw [hdef, Bool.eq_iff_iff]
         simp only [decide_eq_true_eq, beq_iff_eq, List.getD_eq_getElem?_getD]
         constructor
         · rintro ⟨h1, h2⟩
           have h3 := congrArg (fun x : ByteArray => x.data.toList) h2
           simp only [List.getElem?_eq_getElem h1, Option.getD_some] at h3
           rw [List.getElem?_eq_getElem h1, h3]
         · intro h1
           obtain ⟨h2, h3⟩ := List.getElem?_eq_some_iff.1 h1
           exact ⟨h2, by rw [h1]; rfl⟩
       rw [hd]
     · exact ⟨rfl, rfl, rfl, Nat.le_refl _, fun _ _ => rfl⟩
 clear hbs hdef
 obtain ⟨H, hH⟩ : ∃ H, H = hasB ws s := ⟨_, rfl⟩
 rw [← hH] at key ⊢
 clear hH
 have hbW := (Below.refl w.heap.size w).alloc (Nat.le_refl _) (.cells #[.slice A ws.length c] 37)
 go_enter Tryz.func239, Tryz.ntmps239
 go_wp2_with (go_at_call 296; refine (key _ hbW).mono ?_; rintro e w1 ⟨⟨k, rfl⟩, hb1⟩)
 go_ret
 exact ⟨rfl, hbW.trans (hb1.mono hbW.size)⟩
theorem wrong1_any (g : Nat) (A : Option Addr) (c : Nat) (ws : List Str) (s : Str) (w : World) (hg : w.cell? ⟨g, 0, none⟩ = some (.slice A ws.length c)) (hr : Reads w w.heap.size 1 A ws.length (ws.map sv)) (hA : Plain0 A) (hi : incB ws = true) (hn : ws.length ≤ 2 ^ 32) :
   Calls Tryz.prog 238 #[sv s, .pointer (some ⟨g, 0, none⟩)] w fun e w' => e = .returned (.bool (!hasB ws s)) ∧ Below w.heap.size w w' := by
 have k1 := iHas_any A c ws s w hr hA hi hn
 obtain ⟨H, hH⟩ : ∃ H, H = hasB ws s := ⟨_, rfl⟩
 rw [← hH] at k1 ⊢
 clear hH hr hA hi
 go_enter Tryz.func238, Tryz.ntmps238
 go_wp2_with (go_at_call 239; refine k1.mono ?_; rintro e w1 ⟨rfl, hb1⟩)
 go_ret
 exact ⟨rfl, hb1⟩
def wrongS (lex ws : List Str) : List Str := ws.filter fun x => !hasB lex x
theorem wrongS_step (lex ws : List Str) (k : Nat) (h : k < ws.length) : wrongS lex (ws.take (k + 1)) = if hasB lex ws[k] then wrongS lex (ws.take k) else wrongS lex (ws.take k) ++ [ws[k]] := by
 rw [List.take_succ_eq_append_getElem h]
 unfold wrongS
 rw [List.filter_append]
 cases hh : hasB lex ws[k] <;> simp [hh]
theorem wrongS_length (lex ws : List Str) : (wrongS lex ws).length ≤ ws.length := List.length_filter_le _ _
theorem selected_any (A Ax : Option Addr) (c cx g : Nat) (lex ws : List Str) (w : World) (hg : w.cell? ⟨g, 0, none⟩ = some (.slice A lex.length c)) (hr : Reads w w.heap.size 1 A lex.length (lex.map sv)) (hA : Plain0 A) (hi : incB lex = true) (hn : lex.length ≤ 2 ^ 32)
   (hx : Reads w w.heap.size 1 Ax ws.length (ws.map sv)) (hl : ws.length ≤ 2 ^ 33) :
   Calls Tryz.prog 237 #[.slice Ax ws.length cx, .func (.func 238) #[] #[.pointer (some ⟨g, 0, none⟩)]] w fun e w' => ∃ v, e = .returned v ∧ w'.ownsRow w.heap.size 9 1 v (wrongS lex ws).length ((wrongS lex ws).map sv) ∧ Below w.heap.size w w' := by
 have hgz : g < w.heap.size := World.block_lt_of_cell? w _ hg
 have kc : ∀ (s : Str) (W : World), Below w.heap.size w W → Calls Tryz.prog 238 #[sv s, .pointer (some ⟨g, 0, none⟩)] W fun e w' => e = .returned (.bool (!hasB lex s)) ∧ Below W.heap.size W w' := fun s W hW =>
   wrong1_any g A c lex s W (by rw [hW.cell (by exact hgz)]; exact hg) ((hr.below hW).more hW.size) hA hi hn
 have hst := Lib.hid (wrongS_step lex ws)
 have hln := Lib.hid (fun k => wrongS_length lex (ws.take k))
 have hend : Hid (wrongS lex ws = wrongS lex (ws.take ws.length)) := Lib.hid (by rw [List.take_length])
 have h0 : Hid (wrongS lex (ws.take 0) = []) := Lib.hid rfl
 obtain ⟨WS, hWS⟩ : ∃ WS, WS = wrongS lex := ⟨_, rfl⟩
 obtain ⟨HB, hHB⟩ : ∃ HB, HB = hasB lex := ⟨_, rfl⟩
 rw [← hWS] at hst hln hend h0 ⊢
 rw [← hHB] at kc hst
 clear hWS hHB hi hA hr hg
 have hx0 : Reads (w.alloc (.cells #[] 9)) w.heap.size 1 Ax ws.length (ws.map sv) := hx.alloc (Nat.le_refl _) _
 have ow0 := World.ownsRow_lit (base := w.heap.size) (size := 1) (e := 9) w #[] 0 (Nat.le_refl _) (by unfold maxLen; omega) rfl
 have hb0 := (Below.refl w.heap.size w).alloc (Nat.le_refl _) (.cells #[] 9)
 go_enter Tryz.func237, Tryz.ntmps237
 go_wp2_with (fail)
 go_loopw [5, 11] (fun o i wr => ∃ k : Nat, k ≤ ws.length ∧ i = .int .i64 k ∧ wr.ownsRow w.heap.size 9 1 o (WS (ws.take k)).length ((WS (ws.take k)).map sv) ∧ Below w.heap.size w wr) (fun _ i _ => ws.length - (intOf i).toNat)
 case atStart => exact ⟨0, by omega, rfl, by rw [h0.out]; exact ow0, hb0⟩
 case round =>
   clear ow0 hb0 hx0
   obtain ⟨k, hk, rfl, own, hb⟩ := hrel
   by_cases hkl : k < ws.length
   · obtain ⟨ad, rfl, hadb, hc⟩ := (hx.below hb).el hkl
     have hstep := Lib.hid (hst.out k hkl)
     obtain ⟨x, hxx⟩ : ∃ x, x = ws[k] := ⟨_, rfl⟩
     rw [← hxx] at hstep hc
     clear hxx
     have hkk : (k : Int) < (ws.length : Int) := by omega
     have hadz : ad.block < wr.heap.size := Nat.lt_of_lt_of_le hadb hb.size
     have hl2 := hln.out k
     rw [List.length_take] at hl2
     obtain ⟨S, hS⟩ : ∃ S, S = WS (ws.take k) := ⟨_, rfl⟩
     rw [← hS] at own hstep hl2
     clear hS
     have kcx := kc x wr hb
     have hSl : S.length + 1 ≤ 1099511627776 := by omega
     obtain ⟨h, hh⟩ : ∃ h, h = HB x := ⟨_, rfl⟩
     rw [← hh] at kcx hstep
     clear hh hl2
     cases h
     · have hst2 : Hid (WS (ws.take (k + 1)) = S ++ [x]) := Lib.hid (by rw [hstep.out]; rfl)
       simp only [Bool.not_false] at kcx
       have hlit := run_lit1 strT1 (sv x) #[sv x] rfl rfl (by omega)
       go_wp2_with (first
         | (go_at_call 238; refine kcx.mono ?_; rintro e w2 ⟨rfl, hb2⟩
            have own2 := own_call own hb2
            have hb3 := hb.trans (hb2.mono hb.size)
            have hz3 := hb3.size)
         | (at_builtin; refine wpList_app strT1 rfl (.tmp 18) (.tmp 20) rfl _ S.length _ rfl w.heap.size own2 [sv x] rfl (by simp [Value.oneCell', sv]) rfl hSl (by omega) hz3 ?_; intro v6 w6 own6 hg6 hat6))
       go_roundw
       case rel => exact ⟨k + 1, by omega, by go_num, own_cast own6 (by rw [hst2.out]; simp) (by rw [hst2.out]; simp), Below.own hb3 hz3 own2 (Nat.le_refl _) hg6⟩
       case measure => simp [intOf]; omega
     · have hst2 : Hid (WS (ws.take (k + 1)) = S) := Lib.hid (by rw [hstep.out]; rfl)
       simp only [Bool.not_true] at kcx
       go_wp2_with (go_at_call 238; refine kcx.mono ?_; rintro e w2 ⟨rfl, hb2⟩)
       go_roundw
       case rel => exact ⟨k + 1, by omega, by go_num, by rw [hst2.out]; exact own_call own hb2, hb.trans (hb2.mono hb.size)⟩
       case measure => simp [intOf]; omega
   · obtain rfl : k = ws.length := by omega
     have hkk : ¬ (ws.length : Int) < (ws.length : Int) := by omega
     rw [← hend.out] at own
     go_wp2_with (fail)
     go_ret
     exact ⟨_, rfl, own, hb⟩
theorem wrongWords_any (b : Bd) (q : Pl) (A : Option Addr) (c : Nat) (lex : List Str) (w : World) (hf : b.Fit) (hba : asciiB b.cells = true) (ha : asciiB q.word = true) (hon : OnQ b q) (hl : q.word.length ≤ 2 ^ 32) (h1 : -400000000000 ≤ q.row) (h2 : q.row ≤ 400000000000) (h3 : -400000000000 ≤ q.col) (h4 : q.col ≤ 400000000000)
   (hr : Reads w w.heap.size 1 A lex.length (lex.map sv)) (hA : Plain0 A) (hi : incB lex = true) (hn : lex.length ≤ 2 ^ 32) :
   Calls Tryz.prog 160 #[b.v, .agg #[.slice A lex.length c], q.v] w fun e w' => ∃ v, e = .returned v ∧ w'.ownsRow w.heap.size 9 1 v (wrongS lex (wordsI b q)).length ((wrongS lex (wordsI b q)).map sv) ∧ Below w.heap.size w w' := by
 have kw := fun w => wordsFormed_any b q w hf hba ha hon hl h1 h2 h3 h4
 have hwl : (wordsI b q).length ≤ 2 ^ 33 := by
   have := crossP_length b q (newL b q)
   have h := newTo_length b q q.word.length
   change (newL b q).length ≤ _ at h
   simp [wordsI, crossW]; omega
 obtain ⟨WI, hWI⟩ : ∃ WI, WI = wordsI b q := ⟨_, rfl⟩
 rw [← hWI] at kw hwl ⊢
 clear hWI hf hba ha hon h1 h2 h3 h4
 obtain ⟨Z, hZ⟩ : ∃ Z, Z = wrongS lex WI := ⟨_, rfl⟩
 have ksel := fun (Ax : Option Addr) (cx g : Nat) (W : World) (hg : W.cell? ⟨g, 0, none⟩ = some (.slice A lex.length c)) (hr : Reads W W.heap.size 1 A lex.length (lex.map sv)) (hx : Reads W W.heap.size 1 Ax WI.length (WI.map sv)) => selected_any A Ax c cx g lex WI W hg hr hA hi hn hx hwl
 rw [← hZ] at ksel ⊢
 clear hZ hi
 simp only [Bd.v, Pl.v] at *
 have hmf : ∀ (fn : Fn) (first cap : Array Value) (w : World), (Instr.makeFunc fn first cap).run Tryz.prog w = .ok (.func fn first cap) w := fun _ _ _ _ => rfl
 obtain ⟨sz, bp, bc⟩ := b
 obtain ⟨qr, qc, qd, qw⟩ := q
 obtain ⟨W0, hW0⟩ : ∃ W0, W0 = ((w.alloc (.cells #[.int .i64 sz, sv bp, sv bc] 41)).alloc (.cells #[.slice A lex.length c] 37)).alloc (.cells #[.int .i64 qr, .int .i64 qc, .bool qd, sv qw] 61) := ⟨_, rfl⟩
 have hL0 : Blk W0 (w.heap.size + 1) 37 #[.slice A lex.length c] := by rw [hW0]; exact (Blk.new1 w _ _ _).alloc _
 have hb0 : Below w.heap.size w W0 := by rw [hW0]; exact (((Below.refl _ _).alloc (Nat.le_refl _) _).alloc (by simp) _).alloc (by simp; omega) _
 go_enter Tryz.func160, Tryz.ntmps160
 go_wp2_with (first
   | (go_at_call 159; rw [← hW0]; refine (kw _).mono ?_; rintro e w1 ⟨v, rfl, own, hb1⟩; obtain ⟨Ax, cx, rfl, hcx, hrx⟩ := own_sl own
      have hb01 := hb0.trans (hb1.mono hb0.size)
      have hL1 := hL0.below hb1 hL0.lt)
   | (go_at_call 237; refine (ksel _ _ _ _ (hL1.cell 0) ((hr.below hb01).more hb01.size) hrx).mono ?_; rintro e w2 ⟨v, rfl, own2, hb2⟩))
 go_ret
 exact ⟨_, rfl, own_base own2 hb01.size, hb01.trans (hb2.mono hb01.size)⟩
end Go.Proofs.YtdkckikobefekaaGreatDoor
