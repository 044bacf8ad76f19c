/-
  Contract: a play whose new squares have some letters (layer 16 of the impl package); Contract: can a word be made with counts of tiles (layer 3 of the impl package); Contract: the search for the ways to make a word (layer 3 of the impl package); Contract: the ways to make a word (layer 3 of the impl package).
  Conditions: a board of a size from 5 to 15; ASCII letters; as many letters as new squares; small letters; counts and lengths of common size; small letters; counts of common size.
-/
import Derived.Test.YtdkckikobefekaaGreatDoorM15
import Derived.Test.YtdkckikobefekaaGreatDoorM05
import Derived.Laws.EntriesVeiled
namespace Go.Proofs.YtdkckikobefekaaGreatDoor
open Go.RowKit RegP RegL RegV
set_option maxHeartbeats 1000000
set_option maxRecDepth 100000
def fillTo (word : Str) (N : List Nat) (L : Str) (k : Nat) : Str := (List.range k).foldl (fun s i => s.set (N.getD i 0) (L.getD i 0)) word
theorem fillTo_succ (word : Str) (N : List Nat) (L : Str) (k : Nat) : fillTo word N L (k + 1) = (fillTo word N L k).set (N.getD k 0) (L.getD k 0) := by
 simp [fillTo, List.range_succ]
theorem fillTo_length (word : Str) (N : List Nat) (L : Str) : ∀ k, (fillTo word N L k).length = word.length
 | 0 => rfl
 | k + 1 => by rw [fillTo_succ, List.length_set, fillTo_length word N L k]
def fillQ (b : Bd) (q : Pl) (L : Str) : Pl := ⟨q.row, q.col, q.down, fillTo q.word (newL b q) L (newL b q).length⟩
theorem filled_any (b : Bd) (q : Pl) (L : Str) (w : World) (hf : b.Fit) (ha : asciiB q.word = true) (hl : q.word.length ≤ 2 ^ 32) (hL : L.length = (newL b q).length) (h1 : -400000000000 ≤ q.row) (h2 : q.row ≤ 400000000000) (h3 : -400000000000 ≤ q.col) (h4 : q.col ≤ 400000000000) :
   Calls Tryz.prog 212 #[b.v, q.v, sv L] w fun e w' => e = .returned (fillQ b q L).v ∧ Below w.heap.size w w' := by
 have kn := fun w => newSquares_any b q w hf ha hl h1 h2 h3 h4
 have hNx := newTo_lt b q q.word.length
 change ∀ x ∈ newL b q, _ at hNx
 have hNl := newTo_length b q q.word.length
 change (newL b q).length ≤ _ at hNl
 have hM : Hid (fillQ b q L = ⟨q.row, q.col, q.down, fillTo q.word (newL b q) L (newL b q).length⟩) := Lib.hid rfl
 have hMs : Hid (∀ k, fillTo q.word (newL b q) L (k + 1) = (fillTo q.word (newL b q) L k).set ((newL b q).getD k 0) (L.getD k 0)) := Lib.hid (fun k => fillTo_succ _ _ _ k)
 have hMl : Hid (∀ k, (fillTo q.word (newL b q) L k).length = q.word.length) := Lib.hid (fun k => fillTo_length _ _ _ k)
 have hM0 : Hid (fillTo q.word (newL b q) L 0 = q.word) := Lib.hid rfl
 obtain ⟨SQ, hSQ⟩ : ∃ SQ, SQ = sqL q (newL b q) := ⟨_, rfl⟩
 obtain ⟨M, hMe⟩ : ∃ M, M = fillQ b q L := ⟨_, rfl⟩
 obtain ⟨MT, hMT⟩ : ∃ MT, MT = fillTo q.word (newL b q) L := ⟨_, rfl⟩
 obtain ⟨N, hN⟩ : ∃ N, N = newL b q := ⟨_, rfl⟩
 rw [← hSQ] at kn
 rw [← hMT] at hM hMs hMl hM0
 rw [← hMe] at hM ⊢
 rw [← hN] at kn hNx hNl hM hMs hL
 have hL' := Lib.hid hL
 have hNx' := Lib.hid hNx
 clear hSQ hMe hMT hN hL hNx ha hf h1 h2 h3 h4
 obtain ⟨n, bp, bc⟩ := b
 obtain ⟨qr, qc, qd, qw⟩ := q
 simp only [Bd.v, Pl.v] at *
 obtain ⟨W0, hW0⟩ : ∃ W0, W0 = ((w.alloc (.cells #[.int .i64 n, sv bp, sv bc] 41)).alloc (.cells #[.int .i64 qr, .int .i64 qc, .bool qd, sv qw] 61)).alloc (.cells #[.int .i64 0, .int .i64 0, .bool false, .string ⟨#[]⟩] 61) := ⟨_, rfl⟩
 have hz0 : W0.heap.size = w.heap.size + 3 := by rw [hW0]; simp
 have hB0 : Blk W0 w.heap.size 41 #[.int .i64 n, sv bp, sv bc] := by rw [hW0]; exact ((Blk.new w _ _).alloc _).alloc _
 have hB1 : Blk W0 (w.heap.size + 1) 61 #[.int .i64 qr, .int .i64 qc, .bool qd, sv qw] := by rw [hW0]; exact (Blk.new1 w _ _ _).alloc _
 have hB2 : Blk W0 (w.heap.size + 1 + 1) 61 #[.int .i64 0, .int .i64 0, .bool false, .string ⟨#[]⟩] := by rw [hW0]; exact Blk.new2 w _ _ _ _
 have hbW : Below w.heap.size w W0 := by rw [hW0]; exact ((((Below.refl _ _).alloc (Nat.le_refl _) _).alloc (by simp) _).alloc (by simp; omega) _)
 have kb := fun (w : World) => run_bytes_of_string (P := Tryz.prog) w 9 209 5 ⟨qw.toArray⟩ Tryz.underlying9 Tryz.underlying209 Tryz.underlying5
 have e1 : W0.cell? ⟨w.heap.size + 1, 3, none⟩ = some (sv qw) := hB1.cell 3
 go_enter Tryz.func212, Tryz.ntmps212
 go_wp2_with (go_at_call 157; rw [← hW0]; generalize grownCap W0 qw.length 0 5 = cap
              have kr := BRow.of_string W0 qw cap 5
              generalize (Obj.cells (bytesRow ⟨qw.toArray⟩ cap) 5 ((bytesRow ⟨qw.toArray⟩ cap).size, (bytesRow ⟨qw.toArray⟩ cap).size + 1)) = ob at kr ⊢
              refine (kn _).mono ?_; rintro e w1 ⟨v1, v2, rfl, ownA, ownB, hb1⟩; obtain ⟨A1, n1, rfl, hn1, -, -⟩ := own_form ownA; obtain ⟨A2, n2, rfl, hn2, -⟩ := own_sl ownB; clear ownA)
 have hb1 : Below (W0.alloc ob).heap.size (W0.alloc ob) w1 := ⟨hb1.os, hb1.tape, hb1.output, hb1.size, hb1.block⟩
 have hBR : BRow w1 w.heap.size (w.heap.size + 1 + 1 + 1) 5 ((MT 0).map bv) := by
   rw [hM0.out]
   have h1 := kr.below hb1 kr.lt
   have e : W0.heap.size = w.heap.size + 1 + 1 + 1 := by omega
   rw [e] at h1
   obtain ⟨_, h2⟩ := h1
   exact ⟨by omega, h2⟩
 have hD1 : Blk w1 (w.heap.size + 1) 61 #[.int .i64 qr, .int .i64 qc, .bool qd, sv qw] := (hB1.alloc ob).below hb1 (by simp; omega)
 have hD2 : Blk w1 (w.heap.size + 1 + 1) 61 #[.int .i64 0, .int .i64 0, .bool false, .string ⟨#[]⟩] := (hB2.alloc ob).below hb1 (by simp; omega)
 have hb0 : Below w.heap.size w w1 := (hbW.alloc (by omega) ob).trans (hb1.mono (by simp; omega))
 have hz1 : w.heap.size + 1 + 1 + 1 < w1.heap.size := hBR.lt
 have hz00 : W0.heap.size + 1 ≤ w1.heap.size := by have := hb1.size; simp at this; omega
 have e4 : W0.heap.size = w.heap.size + 1 + 1 + 1 := by omega
 have own2 : w1.ownsRow (w.heap.size + 1 + 1 + 1 + 1) 3 1 (.slice A2 N.length n2) N.length (N.map iv) := own_base ownB (by simp; omega)
 clear ownB kr hB0 hB1 hB2 hbW e1 kb hW0 hz0
 go_loopw [23] (fun i wr => ∃ k : Nat, k ≤ N.length ∧ i = .int .i64 k ∧ BRow wr w.heap.size (w.heap.size + 1 + 1 + 1) 5 ((MT k).map bv) ∧ Blk wr (w.heap.size + 1) 61 #[.int .i64 qr, .int .i64 qc, .bool qd, sv qw] ∧ Blk wr (w.heap.size + 1 + 1) 61 #[.int .i64 0, .int .i64 0, .bool false, .string ⟨#[]⟩] ∧ wr.ownsRow (w.heap.size + 1 + 1 + 1 + 1) 3 1 (.slice A2 N.length n2) N.length (N.map iv) ∧ Below w.heap.size w wr) (fun i _ => N.length - (intOf i).toNat)
 case atStart => exact ⟨0, by omega, rfl, hBR, hD1, hD2, own2, hb0⟩
 case round =>
   clear hBR hD1 hD2 hb0 own2
   obtain ⟨k, hk, rfl, hBR, hD1, hD2, own2, hb⟩ := hrel
   have hr2 := Reads.of_own own2
   by_cases hkl : k < N.length
   · obtain ⟨ad, rfl, hadb, hc⟩ := hr2.el hkl
     have hx := hNx'.out N[k] (List.getElem_mem _)
     have hkk : (k : Int) < (N.length : Int) := by omega
     have hkL : k < L.length := by rw [hL'.out]; exact hkl
     have hkL' : (k : Int) < (L.length : Int) := by omega
     have hstep := Lib.hid (hMs.out k)
     have hg1 : N.getD k 0 = N[k] := by rw [List.getD_eq_getElem?_getD, List.getElem?_eq_getElem hkl]; rfl
     have hg2 : L.getD k 0 = L[k] := by rw [List.getD_eq_getElem?_getD, List.getElem?_eq_getElem hkL]; rfl
     rw [hg1, hg2] at hstep
     have hml := hMl.out k
     obtain ⟨x, hxx⟩ : ∃ x, x = N[k] := ⟨_, rfl⟩
     rw [← hxx] at hx hc hstep
     clear hxx hg1 hg2
     have hc' : wr.cell? (ad.add k) = some (.int .i64 x) := hc
     clear hc
     have hxl : (x : Int) < (qw.length : Int) := by omega
     have hx0 : (0 : Int) ≤ (x : Int) := by omega
     obtain ⟨C, hC⟩ : ∃ C, C = MT k := ⟨_, rfl⟩
     rw [← hC] at hBR hstep hml
     clear hC
     have hnat : x < (C.map bv).length := by rw [List.length_map, hml]; exact hx
     have hset := hBR.stored x (bv L[k])
     have hfr := hBR.frozen hnat
     have hce := hBR.cell hnat
     have hgz := hBR.lt
     clear hml
     go_wp2_with (fail)
     go_roundw
     case rel => exact ⟨k + 1, by omega, by go_num, by rw [hstep.out, List.map_set]; exact hset, hD1.far (p := ⟨w.heap.size + 1 + 1 + 1, _, none⟩) (by simp <;> omega) _, hD2.far (p := ⟨w.heap.size + 1 + 1 + 1, _, none⟩) (by simp) _, own_far own2 (p := ⟨w.heap.size + 1 + 1 + 1, _, none⟩) (fun h => by have := (own2.lt _ h).1; simp at this; omega) _, hb.setCell (by simp <;> omega) _⟩
     case measure => simp [intOf]; omega
   · obtain rfl : k = N.length := by omega
     have hkk : ¬ (N.length : Int) < (N.length : Int) := by omega
     have hlen : (MT N.length).length = qw.length := hMl.out _
     have hcv := run_string_brow (P := Tryz.prog) (cap := cap) (n := qw.length) wr 209 9 5 Tryz.underlying209 Tryz.underlying5 Tryz.underlying9 hBR hlen.symm
     have hMv : Hid (M = ⟨qr, qc, qd, MT N.length⟩) := Lib.hid (by rw [hM.out])
     obtain ⟨X, hX⟩ : ∃ X, X = MT N.length := ⟨_, rfl⟩
     rw [← hX] at hcv hMv
     clear hX hlen
     have b0 : wr.cell? ⟨w.heap.size + 1, 0, none⟩ = some (.int .i64 qr) := hD1.cell 0
     have b1 : wr.cell? ⟨w.heap.size + 1, 1, none⟩ = some (.int .i64 qc) := hD1.cell 1
     have b2 : wr.cell? ⟨w.heap.size + 1, 2, none⟩ = some (.bool qd) := hD1.cell 2
     have b3 : wr.cell? ⟨w.heap.size + 1, 3, none⟩ = some (sv qw) := hD1.cell 3
     have f3 : wr.frozen? ⟨w.heap.size + 1, 3, none⟩ = false := hD1.frozen 3
     have z0 := hD2.far (p := ⟨w.heap.size + 1, 3, none⟩) (by simp <;> omega) (sv X)
     have r0 := hD2.frozen 0
     have r1 := hD2.frozen 1
     have r2 := hD2.frozen 2
     have r3 := hD2.frozen 3
     have x0 : wr.cell? ⟨w.heap.size + 1 + 1, 0, none⟩ = some (.int .i64 0) := hD2.cell 0
     have x1 : wr.cell? ⟨w.heap.size + 1 + 1, 1, none⟩ = some (.int .i64 0) := hD2.cell 1
     have x2 : wr.cell? ⟨w.heap.size + 1 + 1, 2, none⟩ = some (.bool false) := hD2.cell 2
     have x3 : wr.cell? ⟨w.heap.size + 1 + 1, 3, none⟩ = some (.string ⟨#[]⟩) := hD2.cell 3
     have hlt2 : w.heap.size + 1 + 1 < wr.heap.size := hD2.lt
     go_wp2_with (fail)
     rw [hMv.out]
     exact ret_row (by rfl) (w.heap.size + 1 + 1) 61 #[.int .i64 qr, .int .i64 qc, .bool qd, sv X] _ rfl ((((z0.set_ 0 _).set_ 1 _).set_ 2 _).set_ 3 _) Tryz.underlying61 rfl (by kernel_rfl) rfl ⟨rfl, ((((hb.setCell (by simp <;> omega) _).setCell (by simp <;> omega) _).setCell (by simp <;> omega) _).setCell (by simp <;> omega) _).setCell (by simp <;> omega) _⟩
def canC : List Int → Int → Str → Bool
 | _, bl, [] => decide (0 ≤ bl)
 | c, bl, x :: r => canC (c.set (tileK x) (c.getD (tileK x) 0 - 1)) (if c.getD (tileK x) 0 - 1 < 0 then bl - 1 else bl) r
def canMakeC (c : List Int) (word : Str) : Bool := canC c (c.getD 0 0) word
theorem set_bd {c : List Int} {m : Int} (h : ∀ j, -m ≤ c.getD j 0 ∧ c.getD j 0 ≤ 2 ^ 40) (hm : 0 ≤ m) (k j : Nat) : -(m + 1) ≤ (c.set k (c.getD k 0 - 1)).getD j 0 ∧ (c.set k (c.getD k 0 - 1)).getD j 0 ≤ 2 ^ 40 := by
 have h1 := h j
 have h2 := h k
 rw [List.getD_eq_getElem?_getD, List.getElem?_set]
 split
 · split
   · rw [Option.getD_some]; omega
   · simp; omega
 · rw [← List.getD_eq_getElem?_getD]; omega
theorem canMake_any (c : List Int) (s : Str) (w : World) (hc : c.length = 27) (hcb : ∀ j, 0 ≤ c.getD j 0 ∧ c.getD j 0 ≤ 2 ^ 40) (hs : s.length ≤ 2 ^ 32) (ht : s.all smallB = true) :
   Calls Tryz.prog 210 #[.agg (cntA c), sv s] w fun e w' => e = .returned (.bool (canMakeC c s)) ∧ Below w.heap.size w w' := by
 have hRd : Hid (canMakeC c s = canC c (c.getD 0 0) s) := Lib.hid rfl
 have hg0 := (Blk.new w 223 (cntA c)).cell 0
 rw [cntA_get c 0 (by omega)] at hg0
 obtain ⟨R, hR⟩ : ∃ R, R = canMakeC c s := ⟨_, rfl⟩
 obtain ⟨b0, hb0⟩ : ∃ b0, b0 = c.getD 0 0 := ⟨_, rfl⟩
 have hbb := hcb 0
 rw [← hR] at hRd ⊢
 rw [← hb0] at hRd hg0 hbb
 have hB1 := Blk.new w 223 (cntA c)
 have hbW := (Below.refl w.heap.size w).alloc (Nat.le_refl _) (.cells (cntA c) 223)
 obtain ⟨X, hX⟩ : ∃ X, X = cntA c := ⟨_, rfl⟩
 rw [← hX] at hB1 hbW hg0 ⊢
 have hX' := Lib.hid hX
 have hcb' := Lib.hid hcb
 have hc' := Lib.hid hc
 have hbb0 := hbb.1
 have hbb1 : b0 ≤ 1099511627776 := hbb.2
 clear hR hb0 hX hcb hc hbb
 go_enter Tryz.func210, Tryz.ntmps210
 go_wp2_with (fail)
 go_loopw [5, 6] (fun bl i wr => ∃ (k : Nat) (b : Int) (C : List Int), k ≤ s.length ∧ i = .int .i64 k ∧ bl = .int .i64 b ∧ -(k : Int) ≤ b ∧ b ≤ 1099511627776 ∧ Hid (C.length = 27 ∧ (∀ j, -(k : Int) ≤ C.getD j 0 ∧ C.getD j 0 ≤ 2 ^ 40) ∧ R = canC C b (s.drop k)) ∧ Blk wr w.heap.size 223 (cntA C) ∧ Below w.heap.size w wr) (fun _ i _ => s.length - (intOf i).toNat)
 case atStart => exact ⟨0, b0, c, by omega, rfl, rfl, by omega, hbb1, ⟨hc'.out, fun j => by have := hcb'.out j; omega, hRd.out⟩, by rw [← hX'.out]; exact hB1, hbW⟩
 case round =>
   clear hB1 hbW hg0
   obtain ⟨k, b, C, hk, rfl, rfl, hb0, hb1, hH, hB1, hb⟩ := hrel
   by_cases hlt : k < s.length
   · have hc := List.all_eq_true.1 ht _ (List.getElem_mem hlt)
     have hTc : tileB s[k] = true := by unfold tileB; rw [hc]; simp
     have hK := tileK_lt hTc
     have kp := fun w => place_tile s[k] w hTc
     have hbd := hH.out.2.1 (tileK s[k])
     have hstep : Hid (R = canC (C.set (tileK s[k]) (C.getD (tileK s[k]) 0 - 1)) (if C.getD (tileK s[k]) 0 - 1 < 0 then b - 1 else b) (s.drop (k + 1))) := Lib.hid (by rw [hH.out.2.2, drop_cons s k hlt]; rfl)
     have hset2 := Lib.hid (fun j => set_bd hH.out.2.1 (by omega) (tileK s[k]) j)
     have hcl := hH.out.1
     obtain ⟨K, hKK⟩ : ∃ K, K = tileK s[k] := ⟨_, rfl⟩
     rw [← hKK] at hK kp hstep hbd hset2
     have hget := hB1.cell K
     rw [cntA_get C K (by omega)] at hget
     have hfz := hB1.frozen K
     have hset := hB1.set_ K (.int .i64 (C.getD K 0 - 1))
     have hget2 := hset.cell K
     rw [cntA_set] at hset hget2
     rw [cntA_get _ K (by simp; omega)] at hget2
     have hself : (C.set K (C.getD K 0 - 1)).getD K 0 = C.getD K 0 - 1 := by
       rw [List.getD_eq_getElem?_getD, List.getElem?_set_self (by omega)]; rfl
     rw [hself] at hget2
     obtain ⟨x, hx⟩ : ∃ x, x = C.getD K 0 := ⟨_, rfl⟩
     rw [← hx] at hget hget2 hset hbd hstep hset2
     have hx0 : -4294967296 ≤ x := by omega
     have hx1 : x ≤ 1099511627776 := hbd.2
     have hK0 : (0 : Int) ≤ (K : Int) := by omega
     have hK1 : (K : Int) < 27 := by omega
     have hsz := hB1.lt
     have hcl' := Lib.hid hcl
     clear hKK hx hbd hcl hself hTc hc
     by_cases hneg : x - 1 < 0
     · have hsb : -4294967296 ≤ b := by omega
       go_wp2_with (go_at_call 248; refine (kp _).mono ?_; rintro e w' ⟨rfl, rfl⟩)
       go_roundw
       case rel => exact ⟨k + 1, b - 1, _, by omega, by go_num, rfl, by omega, by omega, ⟨by rw [List.length_set]; exact hcl'.out, fun j => by have := hset2.out j; omega, by rw [hstep.out, if_pos hneg]⟩, hset, hb.setCell (by simp) _⟩
       case measure => simp [intOf]; omega
     · have hneg' : decide (x - 1 < 0) = false := decide_eq_false hneg
       have hn2 : 0 ≤ x - 1 := by omega
       go_wp2_with (go_at_call 248; refine (kp _).mono ?_; rintro e w' ⟨rfl, rfl⟩)
       go_roundw
       case rel => exact ⟨k + 1, b, _, by omega, by go_num, rfl, by omega, by omega, ⟨by rw [List.length_set]; exact hcl'.out, fun j => by have := hset2.out j; omega, by rw [hstep.out, if_neg (by omega)]⟩, hset, hb.setCell (by simp) _⟩
       case measure => simp [intOf]; omega
   · obtain rfl : k = s.length := by omega
     go_wp2_with (fail)
     go_ret
     exact ⟨ret_bool (by rw [hH.out.2.2, List.drop_length]; rfl), hb⟩
set_option maxHeartbeats 4000000
theorem walk_nil (gw gy gb gc gf gx cap B : Nat) (word : Str) (C : List Int) (o : Value) (ws : List Str) (buf : Str) (w : World)
   (hbl : buf.length = word.length) (hn : ws.length + 1 ≤ 2 ^ 39) (hS : WSt w gw gy gb gc gf gx cap B word buf C o ws) :
   Calls Tryz.prog 282 #[.int .i64 word.length, .pointer (some ⟨gw, 0, none⟩), .pointer (some ⟨gy, 0, none⟩), .pointer (some ⟨gb, 0, none⟩), .pointer (some ⟨gc, 0, none⟩), .pointer (some ⟨gf, 0, none⟩)] w (WPost w gw gy gb gc gf gx cap B word buf C o (ws ++ [buf])) := by
 obtain ⟨Ps, hPs⟩ : ∃ Ps, Ps = WPost w gw gy gb gc gf gx cap B word buf C o (ws ++ [buf]) := ⟨_, rfl⟩
 have hP : Hid (∀ w', (∃ o', WSt w' gw gy gb gc gf gx cap B word buf C o' (ws ++ [buf]) ∧ Fr w w' gy gc gx o ∧ (o'.ownBlock = o.ownBlock ∨ ∃ k, o'.ownBlock = some k ∧ w.heap.size ≤ k)) → Ps (.returned (.tuple #[])) w') := Lib.hid (fun w' ⟨o', h1, h2, h3⟩ => by rw [hPs]; exact ⟨rfl, o', buf, hbl, List.take_length, h1, h2, h3⟩)
 rw [← hPs]
 clear hPs
 have c0 : w.cell? ⟨gw, 0, none⟩ = some (sv word) := hS.wd.cell 0
 have c1 : w.cell? ⟨gy, 0, none⟩ = some o := hS.ways.cell 0
 have c2 : w.cell? ⟨gb, 0, none⟩ = some (.slice (some ⟨gx, 0, none⟩) word.length cap) := hS.bufp.cell 0
 have hcv := run_string_brow (P := Tryz.prog) (cap := cap) (n := word.length) w 209 9 5 Tryz.underlying209 Tryz.underlying5 Tryz.underlying9 hS.buf hbl.symm
 clear hbl
 have hlit := run_lit1 strT1 (sv buf) #[sv buf] rfl rfl (by omega)
 have own1 := hS.own
 have hown := hS.ownNe
 obtain ⟨A0, n0, rfl, hn0, -⟩ := own_sl own1
 have hyz := hS.ways.lt
 have hfy := hS.ways.frozen 0
 go_enter Tryz.func282, Tryz.ntmps282
 have hBz : B ≤ w.heap.size := by have := hS.buf.1; have := hS.buf.lt; omega
 go_wp2_with (first
   | (at_builtin; refine wpList_app strT1 rfl (.tmp 14) (.tmp 17) rfl _ ws.length _ rfl B own1 [sv buf] rfl (by simp [Value.oneCell', sv]) rfl (by omega) (by omega) hBz ?_; intro v6 w6 own6 hg6 hat6
      obtain ⟨A6, n6, rfl, hn6, -⟩ := own_sl own6
      have y6 := hS.ways.grown hg6 (fun e => hown.2.1 e.symm)
      have y6c : w6.cell? ⟨gy, 0, none⟩ = some (.slice A0 ws.length n0) := y6.cell 0
      have y6f := y6.frozen 0
      have y6z := y6.lt))
 have hat : (Value.slice A6 (ws.length + 1) n6).ownBlock = (Value.slice A0 ws.length n0).ownBlock ∨ ∃ k, (Value.slice A6 (ws.length + 1) n6).ownBlock = some k ∧ w.heap.size ≤ k := hat6.imp id fun e => ⟨_, e, Nat.le_succ _⟩
 refine bodyPost_ret (v := .tuple #[]) (by simp [results, Tryz.f282]) rfl ?_
 exact hP.out _ ⟨_, hS.add own6 hg6 hat, (Fr.refl.grown hg6 (.inl rfl)).setCell (.inl rfl) _, hat⟩
theorem run_choice0 (a b c d : Value) (w : World) : (Instr.index 315 (.agg #[a, b, c, d]) (.int .i64 0)).run Tryz.prog w = .ok (.agg #[a, b]) w := by
 have hu : Tryz.prog.underlying 315 = some (.array 2 314) := Tryz.underlying315
 have hagg : ∀ w, (isAgg 314).run Tryz.prog w = .ok true w := fun w => by kernel_rfl
 have hsz : ∀ w, (Go.sizeOf 314).run Tryz.prog w = .ok 2 w := fun w => by kernel_rfl
 simp [Instr.index, asIntOf, run_underlying hu, hsz, hagg, part]
theorem run_choice1 (a b c d : Value) (w : World) : (Instr.index 315 (.agg #[a, b, c, d]) (.int .i64 1)).run Tryz.prog w = .ok (.agg #[c, d]) w := by
 have hu : Tryz.prog.underlying 315 = some (.array 2 314) := Tryz.underlying315
 have hagg : ∀ w, (isAgg 314).run Tryz.prog w = .ok true w := fun w => by kernel_rfl
 have hsz : ∀ w, (Go.sizeOf 314).run Tryz.prog w = .ok 2 w := fun w => by kernel_rfl
 simp [Instr.index, asIntOf, run_underlying hu, hsz, hagg, part]
theorem set_back (C : List Int) (k : Nat) (v : Int) (h : C.getD k 0 = v) (hk : k < C.length) : (C.set k (v - 1)).set k (v - 1 + 1) = C := by
 rw [List.set_set]
 have e : v - 1 + 1 = C[k] := by rw [← h, List.getD_eq_getElem?_getD, List.getElem?_eq_getElem hk]; simp
 rw [e, List.set_getElem_self]
theorem set_nn {C : List Int} (h : ∀ j, 0 ≤ C.getD j 0 ∧ C.getD j 0 ≤ 2 ^ 40) {k : Nat} (hk : C.getD k 0 ≠ 0) (j : Nat) : 0 ≤ (C.set k (C.getD k 0 - 1)).getD j 0 ∧ (C.set k (C.getD k 0 - 1)).getD j 0 ≤ 2 ^ 40 := by
 have h1 := h j
 have h2 := h k
 have e : (C.set k (C.getD k 0 - 1)).getD j 0 = if k = j ∧ k < C.length then C.getD k 0 - 1 else C.getD j 0 := by
   rw [List.getD_eq_getElem?_getD, List.getElem?_set]
   by_cases hkj : k = j
   · subst hkj
     by_cases hl : k < C.length
     · simp [hl]
     · simp [hl, List.getD_eq_getElem?_getD]
   · simp [hkj, List.getD_eq_getElem?_getD]
 rw [e]
 split <;> omega
theorem take_head {l : List UInt8} {i : Nat} {pre : Str} {x : UInt8} (hp : pre.length = i) (h : l.take (pre ++ [x]).length = pre ++ [x]) : l.take i = pre := by
 have := congrArg (List.take i) h
 rw [List.take_take, List.take_append_of_le_length (by omega)] at this
 rw [show min i (pre ++ [x]).length = i by simp; omega] at this
 rw [this, ← hp, List.take_length]
theorem walk_cons (gw gy gb gc gf gx cap B : Nat) (word : Str) (hsm : word.all smallB = true) (hl : word.length ≤ 2 ^ 20) (x : UInt8) (r pre : Str) (C : List Int) (o : Value) (ws : List Str) (buf : Str) (w : World)
   (ih : ∀ (pre : Str) (C : List Int) (o : Value) (ws : List Str) (buf : Str) (w : World), word.drop pre.length = r → buf.length = word.length → buf.take pre.length = pre → C.length = 27 → (∀ j, 0 ≤ C.getD j 0 ∧ C.getD j 0 ≤ 2 ^ 40) → ws.length + 2 ^ r.length ≤ 2 ^ 38 → WSt w gw gy gb gc gf gx cap B word buf C o ws →
     Calls Tryz.prog 282 #[.int .i64 pre.length, .pointer (some ⟨gw, 0, none⟩), .pointer (some ⟨gy, 0, none⟩), .pointer (some ⟨gb, 0, none⟩), .pointer (some ⟨gc, 0, none⟩), .pointer (some ⟨gf, 0, none⟩)] w (WPost w gw gy gb gc gf gx cap B word pre C o (ws ++ waysR C pre r)))
   (hw : word.drop pre.length = x :: r) (hbl : buf.length = word.length) (hbt : buf.take pre.length = pre) (hc : C.length = 27) (hcb : ∀ j, 0 ≤ C.getD j 0 ∧ C.getD j 0 ≤ 2 ^ 40) (hn : ws.length + 2 ^ (x :: r).length ≤ 2 ^ 38) (hS : WSt w gw gy gb gc gf gx cap B word buf C o ws) :
   Calls Tryz.prog 282 #[.int .i64 pre.length, .pointer (some ⟨gw, 0, none⟩), .pointer (some ⟨gy, 0, none⟩), .pointer (some ⟨gb, 0, none⟩), .pointer (some ⟨gc, 0, none⟩), .pointer (some ⟨gf, 0, none⟩)] w (WPost w gw gy gb gc gf gx cap B word pre C o (ws ++ waysR C pre (x :: r))) := by
 obtain ⟨i, hi⟩ : ∃ i, i = pre.length := ⟨_, rfl⟩
 rw [← hi] at hw
 have hwl : word.length = i + 1 + r.length := by have := congrArg List.length hw; simp at this; omega
 have hil : i < word.length := by omega
 have hxx : word[i] = x := by rw [drop_cons word i hil] at hw; injection hw
 have hwr : word.drop (i + 1) = r := by rw [drop_cons word i hil] at hw; injection hw
 have hsx : smallB x = true := by rw [← hxx]; exact List.all_eq_true.1 hsm _ (List.getElem_mem hil)
 have hTx : tileB x = true := by unfold tileB; rw [hsx]; simp
 have hK := tileK_lt hTx
 have kp := fun w => place_tile x w hTx
 obtain ⟨Ps, hPs⟩ : ∃ Ps, Ps = WPost w gw gy gb gc gf gx cap B word pre C o (ws ++ waysR C pre (x :: r)) := ⟨_, rfl⟩
 have hws : Hid (waysR C pre (x :: r) = (if C.getD 0 0 = 0 then [] else waysR (C.set 0 (C.getD 0 0 - 1)) (pre ++ [upC x]) r) ++ (if C.getD (tileK x) 0 = 0 then [] else waysR (C.set (tileK x) (C.getD (tileK x) 0 - 1)) (pre ++ [x]) r)) := Lib.hid rfl
 have hP : Hid (∀ w', (∃ o' buf', buf'.length = word.length ∧ buf'.take pre.length = pre ∧ WSt w' gw gy gb gc gf gx cap B word buf' C o' (ws ++ waysR C pre (x :: r)) ∧ Fr w w' gy gc gx o ∧ (o'.ownBlock = o.ownBlock ∨ ∃ k, o'.ownBlock = some k ∧ w.heap.size ≤ k)) → Ps (.returned (.tuple #[])) w') := Lib.hid (fun w' h => by rw [hPs]; exact ⟨rfl, h⟩)
 rw [← hPs]
 clear hPs
 obtain ⟨K, hKK⟩ : ∃ K, K = tileK x := ⟨_, rfl⟩
 rw [← hKK] at hK kp hws
 have hx97 : (97 : Int) ≤ (x.toNat : Int) ∧ (x.toNat : Int) ≤ 122 := by unfold smallB at hsx; simpa using hsx
 have hup : ((upC x).toNat : Int) = (x.toNat : Int) - 97 + 65 := by
   unfold upC
   rw [UInt8.toNat_sub]
   have : (32 : UInt8).toNat = 32 := rfl
   omega
 rw [← hi] at hbt hP ⊢
 have hii : ((i : Int) == (word.length : Int)) = false := by rw [beq_eq_false_iff_ne]; omega
 have hil' : (i : Int) < (word.length : Int) := by omega
 have hi0 : (0 : Int) ≤ (i : Int) := by omega
 have c0 : w.cell? ⟨gw, 0, none⟩ = some (sv word) := hS.wd.cell 0
 have hwz := hS.wd.lt
 have hw' := Lib.hid hw
 have hi' := Lib.hid hi
 have hwl' := Lib.hid hwl
 have ihk : Hid (∀ (l : UInt8) (Cd : List Int) (o' : Value) (ws' : List Str) (buf' : Str) (W : World), buf'.length = word.length → buf'.take i = pre → Cd.length = 27 → (∀ j, 0 ≤ Cd.getD j 0 ∧ Cd.getD j 0 ≤ 2 ^ 40) → ws'.length + 2 ^ r.length ≤ 2 ^ 38 → WSt W gw gy gb gc gf gx cap B word (buf'.set i l) Cd o' ws' →
     Calls Tryz.prog 282 #[.int .i64 ((i : Int) + 1), .pointer (some ⟨gw, 0, none⟩), .pointer (some ⟨gy, 0, none⟩), .pointer (some ⟨gb, 0, none⟩), .pointer (some ⟨gc, 0, none⟩), .pointer (some ⟨gf, 0, none⟩)] W (WPost W gw gy gb gc gf gx cap B word (pre ++ [l]) Cd o' (ws' ++ waysR Cd (pre ++ [l]) r))) := Lib.hid (fun l Cd o' ws' buf' W h1 h2 h3 h4 h5 h6 => by
   have h := ih (pre ++ [l]) Cd o' ws' (buf'.set i l) W (by rw [List.length_append, List.length_singleton, ← hi]; exact hwr) (by rw [List.length_set]; exact h1) (by
     rw [List.length_append, List.length_singleton, ← hi, List.take_succ_eq_append_getElem (by rw [List.length_set, h1]; exact hil), List.take_set_of_le (by omega), h2, List.getElem_set_self]) h3 h4 h5 h6
   have e : ((pre ++ [l]).length : Int) = (i : Int) + 1 := by rw [List.length_append, List.length_singleton, ← hi]; omega
   rw [e] at h
   exact h)
 clear hTx hsx hKK hwr ih
 have hin : pre.length = i := hi.symm
 have hin' := Lib.hid hin
 clear hin hi hi' hw hw'
 have hwl' := Lib.hid hwl
 clear hwl
 go_enter Tryz.func282, Tryz.ntmps282
 go_wp2_with (fail)
 refine wp_region_l 14 16 (SM 15 w.drew (w.drew.alloc (.cells #[.int .i64 0, .int .u8 0, .int .i64 0, .int .u8 0] 315))) (by kernel_rfl) (by kernel_rfl) SM.none_ ?_
 simp only [qqT, List.take_zero, qqD, List.drop_zero]
 iterate 15
   apply pl_step rfl
   · intro L w1 hS1 h1 h2 K1 hK1
     clear h2
     have c0 : w1.cell? ⟨gw, 0, none⟩ = some (sv word) := by
       rcases hS1 with ⟨_, hb⟩ | ⟨_, rfl⟩
       · have := (hb.cell (p := ⟨gw, 0, none⟩) (by simp; omega))
         rw [this, World.cell?_alloc_lt _ _ _ (by simpa using hwz)]; exact c0
       · exact c0
     go_wp2_with (go_at_call 248; refine (kp _).mono ?_; rintro e w2 ⟨rfl, rfl⟩)
     exact hS1.keep (by decide)
   simp only [Act.put, qqS, qqC, qqZ]
 apply pl_step rfl
 · intro L w1 hS1 h1 h2 K1 hK1
   clear h2
   obtain rfl := hS1.at0 h1
   go_wp2_with (fail)
   exact SM.to1
 simp only [Act.put, qqS, qqC, qqZ]
 refine pl_nil ?_
 intro w1 hS1
 have hb1 := hS1.at1 (by decide)
 have hb0 : Below w.heap.size w w1 := ((Below.refl w.heap.size w).drew.alloc (by simp) (.cells #[.int .i64 0, .int .u8 0, .int .i64 0, .int .u8 0] 315)).trans (hb1.mono (by simp))
 have hZ : Blk w1 w.heap.size 315 #[.int .i64 0, .int .u8 0, .int .i64 0, .int .u8 0] := (Blk.new w.drew _ _).below hb1 (by simp)
 have hS2 := hS.below hb0
 have z0 : w1.cell? ⟨w.heap.size, 0, none⟩ = some (.int .i64 0) := hZ.cell 0
 have z1 : w1.cell? ⟨w.heap.size, 1, none⟩ = some (.int .u8 0) := hZ.cell 1
 have z2 : w1.cell? ⟨w.heap.size, 2, none⟩ = some (.int .i64 0) := hZ.cell 2
 have z3 : w1.cell? ⟨w.heap.size, 3, none⟩ = some (.int .u8 0) := hZ.cell 3
 have f0 := hZ.frozen
 have hzz := hZ.lt
 clear hS1 hb1
 go_wp2_with (fail)
 rw [← hup]
 clear hup
 have hi0 := fun a b c d w => run_choice0 a b c d w
 have hi1 := fun a b c d w => run_choice1 a b c d w
 obtain ⟨W2, hW2⟩ : ∃ W2, W2 = (((w1.setCell ⟨w.heap.size, 0, none⟩ (.int .i64 0)).setCell ⟨w.heap.size, 1, none⟩ (.int .u8 (upC x).toNat)).setCell ⟨w.heap.size, 2, none⟩ (.int .i64 K)).setCell ⟨w.heap.size, 3, none⟩ (.int .u8 x.toNat) := ⟨_, rfl⟩
 have hb2 : Below w.heap.size w W2 := by rw [hW2]; exact (((hb0.setCell (Nat.le_refl _) _).setCell (Nat.le_refl _) _).setCell (Nat.le_refl _) _).setCell (Nat.le_refl _) _
 rw [← hW2]
 have hS3 := hS.below hb2
 have hF3 := (Fr.refl (w := w) (gy := gy) (gc := gc) (gx := gx) (o := o)).below hb2
 clear hW2 hb0 hZ hS2 z0 z1 z2 z3 f0 hzz hb2 c0 hwz hS
 obtain ⟨PA, hPA⟩ : ∃ PA, PA = (if C.getD 0 0 = 0 then [] else waysR (C.set 0 (C.getD 0 0 - 1)) (pre ++ [upC x]) r) := ⟨_, rfl⟩
 obtain ⟨PB, hPB⟩ : ∃ PB, PB = (if C.getD K 0 = 0 then [] else waysR (C.set K (C.getD K 0 - 1)) (pre ++ [x]) r) := ⟨_, rfl⟩
 rw [← hPA, ← hPB] at hws
 have hPA' := Lib.hid hPA
 have hPB' := Lib.hid hPB
 have hPl : Hid (PA.length ≤ 2 ^ r.length) := Lib.hid (by
   rw [hPA]
   split
   · exact Nat.zero_le _
   · exact waysR_length _ _ _)
 clear hPA hPB
 go_loopw [35] (fun jv wr => ∃ (j : Nat) (o' : Value) (buf' : Str), j ≤ 2 ∧ jv = .int .i64 j ∧ Hid (buf'.length = word.length ∧ buf'.take i = pre) ∧ WSt wr gw gy gb gc gf gx cap B word buf' C o' (ws ++ (if j = 0 then [] else if j = 1 then PA else PA ++ PB)) ∧ Fr w wr gy gc gx o ∧ (o'.ownBlock = o.ownBlock ∨ ∃ k, o'.ownBlock = some k ∧ w.heap.size ≤ k)) (fun jv _ => 2 - (intOf jv).toNat)
 case atStart => exact ⟨0, o, buf, by omega, rfl, Lib.hid ⟨hbl, hbt⟩, by simpa using hS3, hF3, .inl rfl⟩
 case round =>
   clear hS3 hF3 hbl hbt
   obtain ⟨j, o', buf', hj, rfl, hbf, hS3, hF3, hO3⟩ := hrel
   have hj3 : j = 0 ∨ j = 1 ∨ j = 2 := by omega
   rcases hj3 with rfl | rfl | rfl
   · skip
     have hS4 : WSt wr gw gy gb gc gf gx cap B word buf' C o' (ws) := by simpa using hS3
     clear hS3
     have hcz := hcb 0
     have hk0 : (0 : Int) ≤ ((0 : Nat) : Int) := by omega
     have hk1 : ((0 : Nat) : Int) < 27 := by omega
     have hgk : wr.cell? ⟨gc, 0, none⟩ = some (.int .i64 (C.getD 0 0)) := by rw [hS4.cnt.cell 0, cntA_get C 0 (by omega)]
     have hset := Lib.hid (hcb)
     obtain ⟨cv, hcv⟩ : ∃ cv, cv = C.getD 0 0 := ⟨_, rfl⟩
     rw [← hcv] at hgk hcz
     have hcv' := Lib.hid hcv
     clear hcv
     have lw := hS4.wd.lt
     have ly := hS4.ways.lt
     have lb := hS4.bufp.lt
     have lx := hS4.buf.lt
     have lc := hS4.cnt.lt
     have lf := hS4.fn.lt
     by_cases hz : cv = 0
     · have hz1 : (cv == 0) = true := by rw [hz]; rfl
       have hpe : PA = [] := by rw [hPA'.out, ← hcv'.out, if_pos hz]
       go_wp2_with (fail)
       go_roundw
       case rel => exact ⟨1, o', buf', by omega, by go_num, hbf, by rw [hpe]; simpa using hS4.below ((Below.refl _ _).alloc (Nat.le_refl _) _), hF3.alloc _, hO3⟩
       case measure => simp [intOf]
     · have hz1 : (cv == 0) = false := by rw [beq_eq_false_iff_ne]; exact hz
       have hpe : PA = waysR (C.set 0 (cv - 1)) (pre ++ [(upC x)]) r := by rw [hPA'.out, ← hcv'.out, if_neg hz]
       have hfk := hS4.cnt.frozen 0
       have hgb : wr.cell? ⟨gb, 0, none⟩ = some (.slice (some ⟨gx, 0, none⟩) word.length cap) := hS4.bufp.cell 0
       have hgf : wr.cell? ⟨gf, 0, none⟩ = some _ := hS4.fn.cell 0
       have hbi : i < (buf'.map bv).length := by rw [List.length_map, hbf.out.1]; exact hil
       have hxf := hS4.buf.frozen hbi
       have hxc := hS4.buf.cell hbi
       obtain ⟨⟨a1, a2, a3, a4, a5⟩, ⟨b1, b2, b3, b4⟩, ⟨c1, c2, c3⟩, ⟨d1, d2⟩, e1⟩ := hS4.ne
       have hown := hS4.own
       obtain ⟨W4, hW4⟩ : ∃ W4, W4 = ((wr.setCell ⟨gc, 0, none⟩ (.int .i64 (cv - 1))).setCell ⟨gx, i, none⟩ (.int .u8 ((upC x)).toNat)).alloc (.cells #[.int .i64 0, .int .u8 ((upC x)).toNat] 314) := ⟨_, rfl⟩
       have hS5 : WSt W4 gw gy gb gc gf gx cap B word (buf'.set i (upC x)) (C.set 0 (cv - 1)) o' (ws) := by rw [hW4]; exact ((hS4.cset 0 (cv - 1)).bset i (upC x)).below ((Below.refl _ _).alloc (Nat.le_refl _) _)
       have hX4 : Blk W4 wr.heap.size 314 #[.int .i64 0, .int .u8 ((upC x)).toNat] := by
         rw [hW4]
         have := Blk.new ((wr.setCell ⟨gc, 0, none⟩ (.int .i64 (cv - 1))).setCell ⟨gx, i, none⟩ (.int .u8 ((upC x)).toNat)) 314 #[.int .i64 0, .int .u8 ((upC x)).toNat]
         simpa using this
       have hF4 : Fr w W4 gy gc gx o := by rw [hW4]; exact ((hF3.setCell (p := ⟨gc, 0, none⟩) (.inr (.inl rfl)) _).setCell (p := ⟨gx, i, none⟩) (.inr (.inr (.inl rfl))) _).alloc _
       have hz4 : W4.heap.size = wr.heap.size + 1 := by rw [hW4]; simp
       have ihr := ihk.out (upC x) (C.set 0 (cv - 1)) o' (ws) buf' W4 hbf.out.1 hbf.out.2 (by rw [List.length_set]; exact hc) (by rw [hcv'.out]; exact set_nn hset.out (by rw [← hcv'.out]; exact hz)) (by have := hPl.out; simp only [List.length_cons, Nat.pow_succ] at hn ⊢; omega) hS5
       have hn' := Lib.hid hn
       clear hn
       go_wp2_with (first
         | (go_at_call 282; rw [← hW4]; refine ihr.mono ?_; rintro e w5 ⟨rfl, o5, buf5, hl5, ht5, hS6, hF5, hO5⟩
            have hX5 := hF5.blk hX4 (by omega) (by omega) (by omega) (fun e => by have := (hown.lt _ e.symm).2; omega)
            have x50 : w5.cell? ⟨wr.heap.size, 0, none⟩ = some (.int .i64 0) := hX5.cell 0
            have g5k : w5.cell? ⟨gc, 0, none⟩ = some (.int .i64 (cv - 1)) := by rw [hS6.cnt.cell 0, cntA_get _ 0 (by rw [List.length_set]; omega), List.getD_eq_getElem?_getD, List.getElem?_set_self (by omega)]; rfl
            have f5k := hS6.cnt.frozen 0
            have l5 := hX5.lt
            have l5c := hS6.cnt.lt))
       go_roundw
       case rel =>
         refine ⟨1, o5, buf5, by omega, by go_num, Lib.hid ⟨hl5, take_head hin'.out ht5⟩, ?_, (hF4.trans hF5 hO3).setCell (.inr (.inl rfl)) _, ?_⟩
         · have := hS6.cset 0 (cv - 1 + 1)
           rw [set_back C 0 cv hcv'.out.symm (by omega)] at this
           have e : cv - 1 + 1 = cv := by omega
           rw [hpe]
           simpa using this
         · rcases hO5 with e1 | ⟨k, e1, hk⟩
           · rw [e1]; exact hO3
           · exact .inr ⟨k, e1, Nat.le_trans hF4.size hk⟩
       case measure => simp [intOf]
   · skip
     have hS4 : WSt wr gw gy gb gc gf gx cap B word buf' C o' (ws ++ PA) := by simpa using hS3
     clear hS3
     have hcz := hcb K
     have hk0 : (0 : Int) ≤ ((K : Nat) : Int) := by omega
     have hk1 : ((K : Nat) : Int) < 27 := by omega
     have hgk : wr.cell? ⟨gc, K, none⟩ = some (.int .i64 (C.getD K 0)) := by rw [hS4.cnt.cell K, cntA_get C K (by omega)]
     have hset := Lib.hid (hcb)
     obtain ⟨cv, hcv⟩ : ∃ cv, cv = C.getD K 0 := ⟨_, rfl⟩
     rw [← hcv] at hgk hcz
     have hcv' := Lib.hid hcv
     clear hcv
     have lw := hS4.wd.lt
     have ly := hS4.ways.lt
     have lb := hS4.bufp.lt
     have lx := hS4.buf.lt
     have lc := hS4.cnt.lt
     have lf := hS4.fn.lt
     by_cases hz : cv = 0
     · have hz1 : (cv == 0) = true := by rw [hz]; rfl
       have hpe : PB = [] := by rw [hPB'.out, ← hcv'.out, if_pos hz]
       go_wp2_with (fail)
       go_roundw
       case rel => exact ⟨2, o', buf', by omega, by go_num, hbf, by rw [hpe]; simpa using hS4.below ((Below.refl _ _).alloc (Nat.le_refl _) _), hF3.alloc _, hO3⟩
       case measure => simp [intOf]
     · have hz1 : (cv == 0) = false := by rw [beq_eq_false_iff_ne]; exact hz
       have hpe : PB = waysR (C.set K (cv - 1)) (pre ++ [x]) r := by rw [hPB'.out, ← hcv'.out, if_neg hz]
       have hfk := hS4.cnt.frozen K
       have hgb : wr.cell? ⟨gb, 0, none⟩ = some (.slice (some ⟨gx, 0, none⟩) word.length cap) := hS4.bufp.cell 0
       have hgf : wr.cell? ⟨gf, 0, none⟩ = some _ := hS4.fn.cell 0
       have hbi : i < (buf'.map bv).length := by rw [List.length_map, hbf.out.1]; exact hil
       have hxf := hS4.buf.frozen hbi
       have hxc := hS4.buf.cell hbi
       obtain ⟨⟨a1, a2, a3, a4, a5⟩, ⟨b1, b2, b3, b4⟩, ⟨c1, c2, c3⟩, ⟨d1, d2⟩, e1⟩ := hS4.ne
       have hown := hS4.own
       obtain ⟨W4, hW4⟩ : ∃ W4, W4 = ((wr.setCell ⟨gc, K, none⟩ (.int .i64 (cv - 1))).setCell ⟨gx, i, none⟩ (.int .u8 (x).toNat)).alloc (.cells #[.int .i64 K, .int .u8 (x).toNat] 314) := ⟨_, rfl⟩
       have hS5 : WSt W4 gw gy gb gc gf gx cap B word (buf'.set i x) (C.set K (cv - 1)) o' (ws ++ PA) := by rw [hW4]; exact ((hS4.cset K (cv - 1)).bset i x).below ((Below.refl _ _).alloc (Nat.le_refl _) _)
       have hX4 : Blk W4 wr.heap.size 314 #[.int .i64 K, .int .u8 (x).toNat] := by
         rw [hW4]
         have := Blk.new ((wr.setCell ⟨gc, K, none⟩ (.int .i64 (cv - 1))).setCell ⟨gx, i, none⟩ (.int .u8 (x).toNat)) 314 #[.int .i64 K, .int .u8 (x).toNat]
         simpa using this
       have hF4 : Fr w W4 gy gc gx o := by rw [hW4]; exact ((hF3.setCell (p := ⟨gc, K, none⟩) (.inr (.inl rfl)) _).setCell (p := ⟨gx, i, none⟩) (.inr (.inr (.inl rfl))) _).alloc _
       have hz4 : W4.heap.size = wr.heap.size + 1 := by rw [hW4]; simp
       have ihr := ihk.out x (C.set K (cv - 1)) o' (ws ++ PA) buf' W4 hbf.out.1 hbf.out.2 (by rw [List.length_set]; exact hc) (by rw [hcv'.out]; exact set_nn hset.out (by rw [← hcv'.out]; exact hz)) (by have := hPl.out; simp only [List.length_append, List.length_cons, Nat.pow_succ] at hn ⊢; omega) hS5
       have hn' := Lib.hid hn
       clear hn
       go_wp2_with (first
         | (go_at_call 282; rw [← hW4]; refine ihr.mono ?_; rintro e w5 ⟨rfl, o5, buf5, hl5, ht5, hS6, hF5, hO5⟩
            have hX5 := hF5.blk hX4 (by omega) (by omega) (by omega) (fun e => by have := (hown.lt _ e.symm).2; omega)
            have x50 : w5.cell? ⟨wr.heap.size, 0, none⟩ = some (.int .i64 K) := hX5.cell 0
            have g5k : w5.cell? ⟨gc, K, none⟩ = some (.int .i64 (cv - 1)) := by rw [hS6.cnt.cell K, cntA_get _ K (by rw [List.length_set]; omega), List.getD_eq_getElem?_getD, List.getElem?_set_self (by omega)]; rfl
            have f5k := hS6.cnt.frozen K
            have l5 := hX5.lt
            have l5c := hS6.cnt.lt))
       go_roundw
       case rel =>
         refine ⟨2, o5, buf5, by omega, by go_num, Lib.hid ⟨hl5, take_head hin'.out ht5⟩, ?_, (hF4.trans hF5 hO3).setCell (.inr (.inl rfl)) _, ?_⟩
         · have := hS6.cset K (cv - 1 + 1)
           rw [set_back C K cv hcv'.out.symm (by omega)] at this
           have e : cv - 1 + 1 = cv := by omega
           rw [hpe]
           simpa using this
         · rcases hO5 with e1 | ⟨k, e1, hk⟩
           · rw [e1]; exact hO3
           · exact .inr ⟨k, e1, Nat.le_trans hF4.size hk⟩
       case measure => simp [intOf]
   · go_wp2_with (fail)
     refine bodyPost_ret (v := .tuple #[]) (by simp [results, Tryz.f282]) rfl ?_
     exact hP.out _ ⟨o', buf', hbf.out.1, hbf.out.2, by rw [hws.out]; exact hS3, hF3, hO3⟩
theorem walk_any (gw gy gb gc gf gx cap B : Nat) (word : Str) (hsm : word.all smallB = true) (hl : word.length ≤ 2 ^ 20) : ∀ (r pre : Str) (C : List Int) (o : Value) (ws : List Str) (buf : Str) (w : World),
   word.drop pre.length = r → buf.length = word.length → buf.take pre.length = pre → C.length = 27 → (∀ j, 0 ≤ C.getD j 0 ∧ C.getD j 0 ≤ 2 ^ 40) → ws.length + 2 ^ r.length ≤ 2 ^ 38 → WSt w gw gy gb gc gf gx cap B word buf C o ws →
   Calls Tryz.prog 282 #[.int .i64 pre.length, .pointer (some ⟨gw, 0, none⟩), .pointer (some ⟨gy, 0, none⟩), .pointer (some ⟨gb, 0, none⟩), .pointer (some ⟨gc, 0, none⟩), .pointer (some ⟨gf, 0, none⟩)] w (WPost w gw gy gb gc gf gx cap B word pre C o (ws ++ waysR C pre r))
 | [], pre, C, o, ws, buf, w, hw, hbl, hbt, _, _, hn, hS => by
   have h1 : word.length ≤ pre.length := List.drop_eq_nil_iff.1 hw
   have h2 : pre.length ≤ buf.length := by have := congrArg List.length hbt; rw [List.length_take] at this; omega
   have hp : pre.length = word.length := by omega
   have hb : buf = pre := by rw [← hbt, hp, ← hbl, List.take_length]
   subst hb
   rw [hp]
   exact walk_nil gw gy gb gc gf gx cap B word C o ws buf w hbl (by have : 2 ^ ([] : Str).length = 1 := rfl; omega) hS
 | x :: r, pre, C, o, ws, buf, w, hw, hbl, hbt, hc, hcb, hn, hS =>
   walk_cons gw gy gb gc gf gx cap B word hsm hl x r pre C o ws buf w (fun pre C o ws buf w => walk_any gw gy gb gc gf gx cap B word hsm hl r pre C o ws buf w) hw hbl hbt hc hcb hn hS
def waysI (C : List Int) (word : Str) : List Str := if canMakeC C word then waysR C [] word else []
theorem waysI_length (C : List Int) (word : Str) : (waysI C word).length ≤ 2 ^ word.length := by
 unfold waysI
 split
 · exact waysR_length _ _ _
 · exact Nat.zero_le _
structure SY (W : World) (word : Str) (σ : Nat → Value) (L : Nat → Bool) (w : World) : Prop where
 low : Below W.heap.size W w
 s0 : L 0 = true → w.ownsRow W.heap.size 9 1 (σ 0) 0 []
 s2 : L 2 = true → ∃ g cap, σ 2 = .slice (some ⟨g, 0, none⟩) word.length cap ∧ BRow w W.heap.size g 5 (word.map bv)
 s3 : L 3 = true → ∃ g, σ 3 = .pointer (some ⟨g, 0, none⟩) ∧ W.heap.size ≤ g ∧ Blk w g 22 #[if L 5 then σ 0 else .slice none 0 0]
 s4 : L 4 = true → ∃ g, σ 4 = .pointer (some ⟨g, 0, none⟩) ∧ W.heap.size ≤ g ∧ Blk w g 209 #[if L 6 then σ 2 else .slice none 0 0]
 s5 : L 5 = true → L 0 = true ∧ L 3 = true
 s6 : L 6 = true → L 2 = true ∧ L 4 = true
section
variable {W w1 w2 : World} {word : Str} {σ : Nat → Value} {L : Nat → Bool}
theorem SY.start : SY W word σ (fun _ => false) W.drew := ⟨(Below.refl _ _).drew, (fun h => by cases h), (fun h => by cases h), (fun h => by cases h), (fun h => by cases h), (fun h => by cases h), (fun h => by cases h)⟩
theorem SY.call (h : SY W word σ L w1) (hb : Below w1.heap.size w1 w2) : SY W word σ L w2 :=
 ⟨h.low.trans (hb.mono h.low.size), fun e => own_call (h.s0 e) hb, fun e => by
   obtain ⟨g, cap, h1, h2⟩ := h.s2 e
   exact ⟨g, cap, h1, h2.below hb h2.lt⟩, fun e => by
   obtain ⟨g, h1, h2, h3⟩ := h.s3 e
   exact ⟨g, h1, h2, h3.below hb h3.lt⟩, fun e => by
   obtain ⟨g, h1, h2, h3⟩ := h.s4 e
   exact ⟨g, h1, h2, h3.below hb h3.lt⟩, h.s5, h.s6⟩
theorem SY.keep1 (h : SY W word σ L w1) : SY W word σ (upd L 1) w1 :=
 ⟨h.low, fun e => h.s0 (by rwa [upd_ne L (by decide)] at e), fun e => h.s2 (by rwa [upd_ne L (by decide)] at e), (fun e => by rw [upd_ne L (by decide)] at e; rw [upd_ne L (by decide)]; exact h.s3 e), (fun e => by rw [upd_ne L (by decide)] at e; rw [upd_ne L (by decide)]; exact h.s4 e), (fun e => by rw [upd_ne L (by decide)] at e; rw [upd_ne L (by decide), upd_ne L (by decide)]; exact h.s5 e), (fun e => by rw [upd_ne L (by decide)] at e; rw [upd_ne L (by decide), upd_ne L (by decide)]; exact h.s6 e)⟩
theorem SY.put0 (h : SY W word σ L w1) (hL : L 0 = false) (hb : Below w1.heap.size w1 w2) {u : Value} (hu : w2.ownsRow W.heap.size 9 1 u 0 []) : SY W word (sub σ 0 u) (upd L 0) w2 := by
 have h := h.call hb
 have h5 : L 5 = false := by cases e : L 5; · rfl
                             · rw [(h.s5 e).1] at hL; cases hL
 refine ⟨h.low, fun _ => by rw [sub_same]; exact hu, fun e => ?_, fun e => ?_, fun e => ?_, fun e => ?_, fun e => ?_⟩
 · rw [upd_ne L (by decide)] at e; rw [sub_ne _ _ (by decide)]; exact h.s2 e
 · rw [upd_ne L (by decide)] at e; rw [upd_ne L (by decide), sub_ne _ _ (by decide), h5]
   have := h.s3 e
   rw [h5] at this
   exact this
 · rw [upd_ne L (by decide)] at e; rw [upd_ne L (by decide), sub_ne _ _ (by decide), sub_ne _ _ (by decide)]; exact h.s4 e
 · rw [upd_ne L (by decide), h5] at e; cases e
 · rw [upd_ne L (by decide)] at e; rw [upd_ne L (by decide), upd_ne L (by decide)]; exact h.s6 e
theorem SY.put2 (h : SY W word σ L w1) (hL : L 2 = false) (hb : Below w1.heap.size w1 w2) {u : Value} (hu : ∃ g cap, u = .slice (some ⟨g, 0, none⟩) word.length cap ∧ BRow w2 W.heap.size g 5 (word.map bv)) : SY W word (sub σ 2 u) (upd L 2) w2 := by
 have h := h.call hb
 have h6 : L 6 = false := by cases e : L 6; · rfl
                             · rw [(h.s6 e).1] at hL; cases hL
 refine ⟨h.low, fun e => ?_, fun _ => by rw [sub_same]; exact hu, fun e => ?_, fun e => ?_, fun e => ?_, fun e => ?_⟩
 · rw [upd_ne L (by decide)] at e; rw [sub_ne _ _ (by decide)]; exact h.s0 e
 · rw [upd_ne L (by decide)] at e; rw [upd_ne L (by decide), sub_ne _ _ (by decide), sub_ne _ _ (by decide)]; exact h.s3 e
 · rw [upd_ne L (by decide)] at e; rw [upd_ne L (by decide), sub_ne _ _ (by decide), h6]
   have := h.s4 e
   rw [h6] at this
   exact this
 · rw [upd_ne L (by decide)] at e; rw [upd_ne L (by decide), upd_ne L (by decide)]; exact h.s5 e
 · rw [upd_ne L (by decide), h6] at e; cases e
theorem SY.put3 (h : SY W word σ L w1) (hL : L 3 = false) (hb : Below w1.heap.size w1 w2) {u : Value} (hu : ∃ g, u = .pointer (some ⟨g, 0, none⟩) ∧ W.heap.size ≤ g ∧ Blk w2 g 22 #[.slice none 0 0]) : SY W word (sub σ 3 u) (upd L 3) w2 := by
 have h := h.call hb
 have h5 : L 5 = false := by cases e : L 5; · rfl
                             · rw [(h.s5 e).2] at hL; cases hL
 refine ⟨h.low, fun e => ?_, fun e => ?_, fun _ => ?_, fun e => ?_, fun e => ?_, fun e => ?_⟩
 · rw [upd_ne L (by decide)] at e; rw [sub_ne _ _ (by decide)]; exact h.s0 e
 · rw [upd_ne L (by decide)] at e; rw [sub_ne _ _ (by decide)]; exact h.s2 e
 · rw [upd_ne L (by decide), h5, sub_same]; exact hu
 · rw [upd_ne L (by decide)] at e; rw [upd_ne L (by decide), sub_ne _ _ (by decide), sub_ne _ _ (by decide)]; exact h.s4 e
 · rw [upd_ne L (by decide), h5] at e; cases e
 · rw [upd_ne L (by decide)] at e; rw [upd_ne L (by decide), upd_ne L (by decide)]; exact h.s6 e
theorem SY.put4 (h : SY W word σ L w1) (hL : L 4 = false) (hb : Below w1.heap.size w1 w2) {u : Value} (hu : ∃ g, u = .pointer (some ⟨g, 0, none⟩) ∧ W.heap.size ≤ g ∧ Blk w2 g 209 #[.slice none 0 0]) : SY W word (sub σ 4 u) (upd L 4) w2 := by
 have h := h.call hb
 have h6 : L 6 = false := by cases e : L 6; · rfl
                             · rw [(h.s6 e).2] at hL; cases hL
 refine ⟨h.low, fun e => ?_, fun e => ?_, fun e => ?_, fun _ => ?_, fun e => ?_, fun e => ?_⟩
 · rw [upd_ne L (by decide)] at e; rw [sub_ne _ _ (by decide)]; exact h.s0 e
 · rw [upd_ne L (by decide)] at e; rw [sub_ne _ _ (by decide)]; exact h.s2 e
 · rw [upd_ne L (by decide)] at e; rw [upd_ne L (by decide), sub_ne _ _ (by decide), sub_ne _ _ (by decide)]; exact h.s3 e
 · rw [upd_ne L (by decide), h6, sub_same]; exact hu
 · rw [upd_ne L (by decide)] at e; rw [upd_ne L (by decide), upd_ne L (by decide)]; exact h.s5 e
 · rw [upd_ne L (by decide), h6] at e; cases e
theorem SY.set5 (h : SY W word σ L w1) (hL : L 5 = false) (h0 : L 0 = true) (h3 : L 3 = true) {g : Nat} (hg : σ 3 = .pointer (some ⟨g, 0, none⟩)) : SY W word σ (upd L 5) (w1.setCell ⟨g, 0, none⟩ (σ 0)) := by
 obtain ⟨g3, e3, l3, b3⟩ := h.s3 h3
 rw [hg] at e3
 injection e3 with e3; injection e3 with e3; injection e3 with e3 _ _
 subst e3
 rw [hL] at b3
 refine ⟨h.low.setCell l3 _, fun e => ?_, fun e => ?_, fun e => ?_, fun e => ?_, fun _ => ?_, fun e => ?_⟩
 · exact own_far (h.s0 h0) (p := ⟨g, 0, none⟩) (own_blk_ne (h.s0 h0) b3 (by decide)) _
 · rw [upd_ne L (by decide)] at e
   obtain ⟨g2, cap, h1, h2⟩ := h.s2 e
   exact ⟨g2, cap, h1, h2.keep (Below.heap_setCell w1 ⟨g, 0, none⟩ _ g2 (fun e => (h2.ne_ b3 (by decide)) e.symm))⟩
 · rw [upd_same]; exact ⟨g, hg, l3, b3.set_ 0 _⟩
 · rw [upd_ne L (by decide)] at e; rw [upd_ne L (by decide)]
   obtain ⟨g4, h1, h2, b4⟩ := h.s4 e
   exact ⟨g4, h1, h2, b4.far (p := ⟨g, 0, none⟩) (b4.ne_ b3 (by decide)) _⟩
 · rw [upd_ne L (by decide), upd_ne L (by decide)]; exact ⟨h0, h3⟩
 · rw [upd_ne L (by decide)] at e; rw [upd_ne L (by decide), upd_ne L (by decide)]; exact h.s6 e
theorem SY.set6 (h : SY W word σ L w1) (hL : L 6 = false) (h0 : L 2 = true) (h3 : L 4 = true) {g : Nat} (hg : σ 4 = .pointer (some ⟨g, 0, none⟩)) : SY W word σ (upd L 6) (w1.setCell ⟨g, 0, none⟩ (σ 2)) := by
 obtain ⟨g3, e3, l3, b3⟩ := h.s4 h3
 rw [hg] at e3
 injection e3 with e3; injection e3 with e3; injection e3 with e3 _ _
 subst e3
 rw [hL] at b3
 refine ⟨h.low.setCell l3 _, fun e => ?_, fun e => ?_, fun e => ?_, fun e => ?_, fun e => ?_, fun _ => ?_⟩
 · rw [upd_ne L (by decide)] at e
   exact own_far (h.s0 e) (p := ⟨g, 0, none⟩) (own_blk_ne (h.s0 e) b3 (by decide)) _
 · obtain ⟨g2, cap, h1, h2⟩ := h.s2 h0
   exact ⟨g2, cap, h1, h2.keep (Below.heap_setCell w1 ⟨g, 0, none⟩ _ g2 (fun e => (h2.ne_ b3 (by decide)) e.symm))⟩
 · rw [upd_ne L (by decide)] at e; rw [upd_ne L (by decide)]
   obtain ⟨g4, h1, h2, b4⟩ := h.s3 e
   exact ⟨g4, h1, h2, b4.far (p := ⟨g, 0, none⟩) (b4.ne_ b3 (by decide)) _⟩
 · rw [upd_same]; exact ⟨g, hg, l3, b3.set_ 0 _⟩
 · rw [upd_ne L (by decide)] at e; rw [upd_ne L (by decide), upd_ne L (by decide)]; exact h.s5 e
 · rw [upd_ne L (by decide), upd_ne L (by decide)]; exact ⟨h0, h3⟩
end
theorem waysToMake_any (C : List Int) (word : Str) (w : World) (hsm : word.all smallB = true) (hl : word.length ≤ 20) (hc : C.length = 27) (hcb : ∀ j, 0 ≤ C.getD j 0 ∧ C.getD j 0 ≤ 2 ^ 40) :
   Calls Tryz.prog 211 #[.agg (cntA C), sv word] w fun e w' => ∃ v, e = .returned v ∧ w'.ownsRow w.heap.size 9 1 v (waysI C word).length ((waysI C word).map sv) ∧ Below w.heap.size w w' := by
 have kc := fun w => canMake_any C word w hc hcb (by omega) hsm
 have kw := fun (gw gy gb gc gf gx cap B : Nat) (o : Value) (w : World) hS => walk_any gw gy gb gc gf gx cap B word hsm (by omega) word [] C o [] word w rfl rfl rfl hc hcb (by have := Nat.pow_le_pow_right (n := 2) (by decide) hl; simp; omega) hS
 have hdef : Hid (waysI C word = if canMakeC C word then waysR C [] word else []) := Lib.hid rfl
 have hs27 : Hid ((cntA C).size = 27) := Lib.hid (by rw [cntA_size, hc])
 obtain ⟨WI, hWI⟩ : ∃ WI, WI = waysI C word := ⟨_, rfl⟩
 obtain ⟨CM, hCM⟩ : ∃ CM, CM = canMakeC C word := ⟨_, rfl⟩
 obtain ⟨WR, hWR⟩ : ∃ WR, WR = waysR C [] word := ⟨_, rfl⟩
 rw [← hWI] at hdef ⊢
 rw [← hCM] at hdef kc
 rw [← hWR] at hdef kw
 clear hWI hCM hWR hcb hc hsm
 obtain ⟨X, hX⟩ : ∃ X, X = cntA C := ⟨_, rfl⟩
 have hX' := Lib.hid hX
 rw [← hX] at hs27 kc ⊢
 clear hX
 obtain ⟨W, hW⟩ : ∃ W, W = (w.alloc (.cells X 223)).alloc (.cells #[sv word] 9) := ⟨_, rfl⟩
 have hC : Blk W w.heap.size 223 X := by rw [hW]; exact (Blk.new w _ _).alloc _
 have hWd : Blk W (w.heap.size + 1) 9 #[sv word] := by rw [hW]; exact Blk.new1 w _ _ _
 have hb0 : Below w.heap.size w W := by rw [hW]; exact ((Below.refl _ _).alloc (Nat.le_refl _) _).alloc (by simp) _
 have hz0 : W.heap.size = w.heap.size + 1 + 1 := by rw [hW]; simp
 have hwd0 : W.cell? ⟨w.heap.size + 1, 0, none⟩ = some (sv word) := hWd.cell 0
 have kb := fun (w : World) => run_bytes_of_string (P := Tryz.prog) w 9 209 5 ⟨word.toArray⟩ Tryz.underlying9 Tryz.underlying209 Tryz.underlying5
 go_enter Tryz.func211, Tryz.ntmps211
 go_wp2_with (fail)
 rw [← hW]
 clear hW
 refine wp_region_v 8 7 (SY W word) (by kernel_rfl) (by kernel_rfl) ⟨fun _ => undef, SY.start⟩ ?_
 simp only [qqT, List.take_zero, qqD, List.drop_zero]
 apply pv_free (fun _ => rfl)
 · intro σ L w1 hS h1 h2 K hK
   clear h2
   go_wp2
   exact hS.put0 h1 ((Below.refl _ _).alloc (Nat.le_refl _) _) (World.ownsRow_lit (base := W.heap.size) (size := 1) (e := 9) w1 #[] 0 hS.low.size (by unfold maxLen; omega) rfl)
 simp only [Act.put, qqS, qqC, qqZ]
 apply pv_step (fun _ => rfl)
 · intro σ L w1 hS h1 h2 K hK
   clear h2
   have c1 : w1.cell? ⟨w.heap.size + 1, 0, none⟩ = some (sv word) := (hS.low.cell (p := ⟨w.heap.size + 1, 0, none⟩) (by simp; omega)).trans hwd0
   go_wp2
   exact hS.keep1
 simp only [Act.put, qqS, qqC, qqZ]
 apply pv_free (fun _ => rfl)
 · intro σ L w1 hS h1 h2 K hK
   clear h2
   go_wp2
   exact hS.put2 h1 (((Below.refl _ _).alloc (Nat.le_refl _) _).drew) ⟨w1.heap.size, _, rfl, hS.low.size, (BRow.of_string w1 word _ 5).2⟩
 simp only [Act.put, qqS, qqC, qqZ]
 apply pv_free (fun _ => rfl)
 · intro σ L w1 hS h1 h2 K hK
   clear h2
   go_wp2
   exact hS.put3 h1 ((Below.refl _ _).alloc (Nat.le_refl _) _) ⟨_, rfl, hS.low.size, Blk.new _ _ _⟩
 simp only [Act.put, qqS, qqC, qqZ]
 apply pv_free (fun _ => rfl)
 · intro σ L w1 hS h1 h2 K hK
   clear h2
   go_wp2
   exact hS.put4 h1 ((Below.refl _ _).alloc (Nat.le_refl _) _) ⟨_, rfl, hS.low.size, Blk.new _ _ _⟩
 simp only [Act.put, qqS, qqC, qqZ]
 apply pv_step (v := undef) (fun _ => rfl)
 · intro σ L w1 hS h1 h2 K hK
   have h0 := h2 0 (List.contains_iff_mem.1 (by kernel_rfl))
   have h3 := h2 3 (List.contains_iff_mem.1 (by kernel_rfl))
   clear h2
   have ho := hS.s0 h0
   obtain ⟨g, hg, hgl, hgb⟩ := hS.s3 h3
   have hfin := hS.set5 h1 h0 h3 hg
   rw [h1] at hgb
   obtain ⟨A0, n0, hv, -, -⟩ := own_sl ho
   simp only [hg, hv] at hfin hK ⊢
   have c0 : w1.cell? ⟨g, 0, none⟩ = some (.slice none 0 0) := hgb.cell 0
   have f0 := hgb.frozen 0
   have lz := hgb.lt
   go_wp2
   exact hfin
 simp only [Act.put]
 apply pv_step (v := undef) (fun _ => rfl)
 · intro σ L w1 hS h1 h2 K hK
   have h0 := h2 2 (List.contains_iff_mem.1 (by kernel_rfl))
   have h3 := h2 4 (List.contains_iff_mem.1 (by kernel_rfl))
   clear h2
   obtain ⟨gx, cap, hv, -⟩ := hS.s2 h0
   obtain ⟨g, hg, hgl, hgb⟩ := hS.s4 h3
   have hfin := hS.set6 h1 h0 h3 hg
   rw [h1] at hgb
   simp only [hg, hv] at hfin hK ⊢
   have c0 : w1.cell? ⟨g, 0, none⟩ = some (.slice none 0 0) := hgb.cell 0
   have f0 := hgb.frozen 0
   have lz := hgb.lt
   go_wp2
   exact hfin
 simp only [Act.put]
 refine pv_nil fun σ w1 hS => ?_
 have ho := hS.s0 rfl
 obtain ⟨gx, cap, e2, hbx⟩ := hS.s2 rfl
 obtain ⟨gy, e3, ly, hby⟩ := hS.s3 rfl
 obtain ⟨gb, e4, lb, hbb⟩ := hS.s4 rfl
 obtain ⟨A0, n0, e0, -, -⟩ := own_sl ho
 have hlow := hS.low
 clear hS
 simp only [e0, e2, e3, e4] at ho hby hbb ⊢
 have hC1 := hC.below hlow (by omega)
 have hW1 := hWd.below hlow (by omega)
 have hby' : Blk w1 gy 22 #[.slice A0 0 n0] := by simpa using hby
 have hbb' : Blk w1 gb 209 #[.slice (some ⟨gx, 0, none⟩) word.length cap] := by simpa using hbb
 have hb1 := hb0.trans (hlow.mono hb0.size)
 have hz1 := hlow.size
 have hb0z : w.heap.size ≤ W.heap.size := by omega
 clear hby hbb hwd0 kb hC hWd hlow hb0
 have hmf : ∀ (fn : Fn) (first cap : Array Value) (w : World), (Instr.makeFunc fn first cap).run Tryz.prog w = .ok (.func fn first cap) w := fun _ _ _ _ => rfl
 obtain ⟨W5, hW5⟩ : ∃ W5, W5 = w1.alloc (.cells #[.func (.func 282) #[] #[.pointer (some ⟨w.heap.size + 1, 0, none⟩), .pointer (some ⟨gy, 0, none⟩), .pointer (some ⟨gb, 0, none⟩), .pointer (some ⟨w.heap.size, 0, none⟩), .pointer (some ⟨w1.heap.size, 0, none⟩)]] 313) := ⟨_, rfl⟩
 have hb5 : Below w1.heap.size w1 W5 := by rw [hW5]; exact (Below.refl _ _).alloc (Nat.le_refl _) _
 have hF5 : Blk W5 w1.heap.size 313 #[.func (.func 282) #[] #[.pointer (some ⟨w.heap.size + 1, 0, none⟩), .pointer (some ⟨gy, 0, none⟩), .pointer (some ⟨gb, 0, none⟩), .pointer (some ⟨w.heap.size, 0, none⟩), .pointer (some ⟨w1.heap.size, 0, none⟩)]] := by rw [hW5]; exact Blk.new _ _ _
 have hS5 : WSt W5 (w.heap.size + 1) gy gb w.heap.size w1.heap.size gx cap W.heap.size word word C (.slice A0 0 n0) [] := by
   have hC5 := hC1.below hb5 hC1.lt
   rw [hX'.out] at hC5
   exact ⟨hW1.below hb5 hW1.lt, hby'.below hb5 hby'.lt, own_call ho hb5, hbb'.below hb5 hbb'.lt, hbx.below hb5 hbx.lt, hC5, hF5, by omega⟩
 have hC5 : Blk W5 w.heap.size 223 X := hC1.below hb5 hC1.lt
 have hbw5 := hb1.trans (hb5.mono hb1.size)
 have hgy0 : w.heap.size ≤ gy := by omega
 have hgx0 : w.heap.size ≤ gx := by have := hbx.1; omega
 clear hC1 hW1 hby' hbb' ho hbx hb5 hF5
 have c1 : W5.cell? ⟨w.heap.size + 1, 0, none⟩ = some (sv word) := hS5.wd.cell 0
 have c7 : W5.cell? ⟨w1.heap.size, 0, none⟩ = some _ := hS5.fn.cell 0
 have c5 : W5.cell? ⟨gy, 0, none⟩ = some (.slice A0 0 n0) := hS5.ways.cell 0
 cases CM
 · have hWI : Hid (WI = []) := Lib.hid (by rw [hdef.out]; rfl)
   go_wp2_with (first
     | (rw [← hW5]; clear hW5; refine wpList_load_row rfl 223 (.tmp 2) rfl w.heap.size rfl 223 X (0, 0) _ hC5 Tryz.underlying223 rfl (by rw [hs27.out]; kernel_rfl) ?_)
     | (go_at_call 210; refine (kc _).mono ?_; rintro e w6 ⟨rfl, hb6⟩
        have hS6 := hS5.below hb6
        have d5 : w6.cell? ⟨gy, 0, none⟩ = some (.slice A0 0 n0) := hS6.ways.cell 0
        have lz := hS6.ways.lt))
   go_ret
   refine ⟨_, rfl, own_cast (own_base hS6.own (Nat.le_trans hb0z (Nat.le_refl _))) (by rw [hWI.out]) (by rw [hWI.out]), hbw5.trans (hb6.mono hbw5.size)⟩
 · have hWI : Hid (WI = WR) := Lib.hid (by rw [hdef.out]; rfl)
   go_wp2_with (first
     | (rw [← hW5]; clear hW5; refine wpList_load_row rfl 223 (.tmp 2) rfl w.heap.size rfl 223 X (0, 0) _ hC5 Tryz.underlying223 rfl (by rw [hs27.out]; kernel_rfl) ?_)
     | (go_at_call 210; refine (kc _).mono ?_; rintro e w6 ⟨rfl, hb6⟩
        have hS6 := hS5.below hb6
        have d7 : w6.cell? ⟨w1.heap.size, 0, none⟩ = some _ := hS6.fn.cell 0
        have lz := hS6.fn.lt)
     | (go_at_call 282; refine (kw _ _ _ _ _ _ _ _ _ _ hS6).mono ?_; rintro e w7 ⟨rfl, o7, buf7, -, -, hS7, hF7, hO7⟩
        obtain ⟨A7, n7, rfl, hn7, -⟩ := own_sl hS7.own
        have d5 : w7.cell? ⟨gy, 0, none⟩ = some _ := hS7.ways.cell 0
        have lz7 := hS7.ways.lt))
   go_ret
   have hb8 : Below w.heap.size W5 w7 := by
     have h := hF7
     refine ⟨h.os.trans hb6.os, h.tape.trans hb6.tape, h.output.trans hb6.output, Nat.le_trans hb6.size h.size, fun k hk => ?_⟩
     have hz5 := hbw5.size
     have hgyW := hgy0
     have hgxW := hgx0
     rw [h.block k (by have := hb6.size; omega) (by omega) (by omega) (by omega) (fun e => by have := (hS6.own.lt k e.symm).1; omega)]
     exact hb6.block k (by omega)
   exact ⟨_, rfl, own_cast (own_base hS7.own hb0z) (by rw [hWI.out]; simp) (by rw [hWI.out]; simp), hbw5.trans hb8⟩
end Go.Proofs.YtdkckikobefekaaGreatDoor
