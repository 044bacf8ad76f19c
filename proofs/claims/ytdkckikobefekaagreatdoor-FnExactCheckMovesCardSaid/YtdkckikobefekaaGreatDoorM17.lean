/-
  Contract: the code of a play (layer 12 of the impl package). PRINTED BY wip/mk57.py.
  Conditions: a valid board; the words of the lexicon increase; a rack of tiles; a word of letters.
-/
import Derived.Test.YtdkckikobefekaaGreatDoorM15
import Derived.Test.YtdkckikobefekaaGreatDoorM16
namespace Go.Proofs.YtdkckikobefekaaGreatDoor
open Go.RowKit RegP RegL RegV
set_option maxHeartbeats 2000000
set_option maxRecDepth 100000
theorem tileC_tile (k : Nat) (h : k < 27) : tileB (tileC k) = true := by
 by_cases h0 : k = 0
 · subst h0; rfl
 · have := tileC_nat k h h0
   unfold tileB smallB
   rw [Bool.or_eq_true]
   right
   simp only [Bool.and_eq_true, decide_eq_true_eq]
   omega
theorem pileL_tile (c : List Int) : (pileL c).all tileB = true := by
 unfold pileL pileTo
 rw [List.all_flatMap, List.all_eq_true]
 intro i hi
 rw [List.all_eq_true]
 intro x hx
 rw [List.eq_of_mem_replicate hx]
 exact tileC_tile i (List.mem_range.1 hi)
theorem tilesP_len (s : Str) (h : s.length ≤ 2 ^ 20) : (tilesP s).length ≤ 2 ^ 32 := by
 have := pileTo_length (countsL (s.map blankC)) s.length (fun j => by have := countsL_bd (s.map blankC) j; rw [List.length_map] at this; exact this.1) 27
 unfold tilesP pileL
 omega
theorem inB_mid {b : Bd} {q : Pl} {n : Int} (h0 : b.inB q.row q.col = true) (h1 : b.inB (q.sr n) (q.sc n) = true) {i : Int} (hi : 0 ≤ i) (hn : i ≤ n) : b.inB (q.sr i) (q.sc i) = true := by
 rw [inB_iff] at h0 h1 ⊢
 unfold Pl.sr Pl.sc at h1 ⊢
 cases hd : q.down <;> simp only [hd, Bool.false_eq_true, if_false, if_true] at h1 ⊢ <;> omega
theorem validI_on {b : Bd} {q : Pl} (h : validI b q = true) : OnQ b q ∧ wordB q.word = true ∧ b.inB q.row q.col = true := by
 unfold validI at h
 simp only [Bool.and_eq_true] at h
 obtain ⟨⟨⟨⟨⟨⟨hw, h0⟩, h1⟩, _⟩, _⟩, _⟩, _⟩ := h
 exact ⟨fun i hi => inB_mid h0 h1 (by omega) (by omega), hw, h0⟩
theorem wordB_lett {s : Str} (h : wordB s = true) : lettB s = true ∧ 2 ≤ s.length ∧ s.length ≤ 12 := by
 unfold wordB placedB inR at h
 simp only [Bool.and_eq_true, decide_eq_true_eq] at h
 exact ⟨h.2.1, by omega, by omega⟩
def codeI (b : Bd) (lex : List Str) (rack : Str) (q : Pl) : Int :=
 if validI b q then
   if withoutB rack (tilesP (placedI b q)) then
     if touchI b q then
       if q.down && (decide ((newL b q).length = 1) && decide (1 < (wordsI b q).length)) then 4
       else if 0 < (wrongS lex (wordsI b q)).length then 9 else 0
     else 6
   else 3
 else 2
theorem legal_any (b : Bd) (A : Option Addr) (c : Nat) (lex : List Str) (rack : Str) (q : Pl) (w : World) (hm : MaxOk w) (hf : b.Fit) (hs : sizeB b.size = true) (hba : asciiB b.cells = true) (ha : asciiB q.word = true) (hl : q.word.length ≤ 2 ^ 20) (h1 : -400000000000 ≤ q.row) (h2 : q.row ≤ 400000000000) (h3 : -400000000000 ≤ q.col) (h4 : q.col ≤ 400000000000)
   (hr : Reads w w.heap.size 1 A lex.length (lex.map sv)) (hA : Plain0 A) (hi : incB lex = true) (hn : lex.length ≤ 2 ^ 32) (hrk : rack.all tileB = true) (hrl : rack.length ≤ 2 ^ 32) :
   Calls Tryz.prog 92 #[b.v, .agg #[.slice A lex.length c], sv rack, q.v] w fun e w' => e = .returned (.int .i64 (codeI b lex rack q)) ∧ Below w.heap.size w w' := by
 have kv := fun w => validOn_any b q w hf hs ha (by omega) h1 h2 h3 h4
 have hvo := fun h => validI_on (b := b) (q := q) h
 have hdef : codeI b lex rack q = if validI b q then
   if withoutB rack (tilesP (placedI b q)) then
     if touchI b q then
       if q.down && (decide ((newL b q).length = 1) && decide (1 < (wordsI b q).length)) then 4
       else if 0 < (wrongS lex (wordsI b q)).length then 9 else 0
     else 6
   else 3
 else 2 := rfl
 have kp := fun h w => placedTiles_any b q w hf (wordB_lett (hvo h).2.1).1 (by omega) h1 h2 h3 h4
 have hNl := newTo_length b q q.word.length
 change (newL b q).length ≤ _ at hNl
 have ko := fun w => without_any rack (tilesP (placedI b q)) w hrl (tilesP_len _ (by rw [placedI, List.length_map]; omega)) hrk (pileL_tile _)
 have kn := fun w => newSquares_any b q w hf ha (by omega) h1 h2 h3 h4
 have kt := fun h w hm => touches_any b q w hm hf hba ha (hvo h).1 (by omega) h1 h2 h3 h4
 have kw := fun h w => wordsFormed_any b q w hf hba ha (hvo h).1 (by omega) h1 h2 h3 h4
 have kx := fun h W hr => wrongWords_any b q A c lex W hf hba ha (hvo h).1 (by omega) h1 h2 h3 h4 hr hA hi hn
 obtain ⟨R, hR⟩ : ∃ R, R = codeI b lex rack q := ⟨_, rfl⟩
 obtain ⟨V, hV⟩ : ∃ V, V = validI b q := ⟨_, rfl⟩
 obtain ⟨TP, hTP⟩ : ∃ TP, TP = tilesP (placedI b q) := ⟨_, rfl⟩
 rw [← hTP] at hdef kp ko
 obtain ⟨WS, hWS⟩ : ∃ WS, WS = withoutS rack TP := ⟨_, rfl⟩
 obtain ⟨WB, hWB⟩ : ∃ WB, WB = withoutB rack TP := ⟨_, rfl⟩
 obtain ⟨TI, hTI⟩ : ∃ TI, TI = touchI b q := ⟨_, rfl⟩
 obtain ⟨XS, hXS⟩ : ∃ XS, XS = wrongS lex (wordsI b q) := ⟨_, rfl⟩
 obtain ⟨WI, hWI⟩ : ∃ WI, WI = wordsI b q := ⟨_, rfl⟩
 rw [← hXS] at hdef kx
 rw [← hWI] at hdef kw
 obtain ⟨SQ, hSQ⟩ : ∃ SQ, SQ = sqL q (newL b q) := ⟨_, rfl⟩
 obtain ⟨N, hN⟩ : ∃ N, N = newL b q := ⟨_, rfl⟩
 rw [← hSQ] at kn
 rw [← hN] at kn hdef hNl
 rw [← hTI] at hdef kt
 rw [← hWS] at ko
 rw [← hWB] at hdef ko
 rw [← hV] at hdef kv kp kt kw kx hvo
 rw [← hR] at hdef ⊢
 have hWl : WI.length ≤ 2 ^ 33 := by
   have := crossP_length b q (newL b q)
   rw [hN] at hNl
   rw [hWI]; simp [wordsI, crossW]; omega
 have hXl : XS.length ≤ 2 ^ 33 := by rw [hXS, ← hWI]; exact Nat.le_trans (wrongS_length _ _) hWl
 clear hR hV hTP hWS hWB hTI hXS hWI hSQ hN hf hs hba ha h1 h2 h3 h4 hA hi hrk hrl hvo
 obtain ⟨sz, bp, bc⟩ := b
 obtain ⟨qr, qc, qd, qw⟩ := q
 simp only [Bd.v, Pl.v] at *
 obtain ⟨W, hW⟩ : ∃ W, W = ((w.alloc (.cells #[.int .i64 sz, sv bp, sv bc] 41)).alloc (.cells #[.slice A lex.length c] 37)).alloc (.cells #[.int .i64 qr, .int .i64 qc, .bool qd, sv qw] 61) := ⟨_, rfl⟩
 have hBW : Blk W w.heap.size 41 #[.int .i64 sz, sv bp, sv bc] := by rw [hW]; exact ((Blk.new w _ _).alloc _).alloc _
 have hLW : Blk W (w.heap.size + 1) 37 #[.slice A lex.length c] := by rw [hW]; exact (Blk.new1 w _ _ _).alloc _
 have hPW : Blk W (w.heap.size + 1 + 1) 61 #[.int .i64 qr, .int .i64 qc, .bool qd, sv qw] := by rw [hW]; exact Blk.new2 w _ _ _ _
 have hb : Below w.heap.size w W := by rw [hW]; exact (((Below.refl _ _).alloc (Nat.le_refl _) _).alloc (by simp) _).alloc (by simp; omega) _
 have hmW : MaxOk W := by rw [hW]; exact ((hm.alloc _).alloc _).alloc _
 have hrW := (hr.below hb).more hb.size
 clear hr hm
 have htW := hb
 have htBW := Below.refl W.heap.size W
 clear hb
 cases V
 · obtain rfl : R = 2 := by rw [hdef]; rfl
   clear hdef
   go_enter Tryz.func92, Tryz.ntmps92
   go_wp2_with (first
     | (go_at_call 156; rw [← hW]; refine (kv _).mono ?_; rintro e w1 ⟨rfl, hb1⟩
        have ht1 := htW.trans (hb1.mono htW.size)))
   go_ret
   exact ⟨rfl, ht1⟩
 have kp' := kp rfl
 have kt' := kt rfl
 have kw' := kw rfl
 have kx' := kx rfl
 clear kp kt kw kx
 cases WB
 · obtain rfl : R = 3 := by rw [hdef]; rfl
   clear hdef
   go_enter Tryz.func92, Tryz.ntmps92
   go_wp2_with (first
     | (go_at_call 156; rw [← hW]; refine (kv _).mono ?_; rintro e w1 ⟨rfl, hb1⟩
        have htB1 := htBW.trans (hb1.mono htBW.size)
        have hB1 := hBW.below hb1 hBW.lt
        have hP1 := hPW.below hb1 hPW.lt
        have hL1 := hLW.below hb1 hLW.lt
        have hr1 := (hrW.below hb1).more hb1.size
        have ht1 := htW.trans (hb1.mono htW.size)
        have b10 : w1.cell? ⟨w.heap.size, 0, none⟩ = some (.int .i64 sz) := hB1.cell 0
        have b11 : w1.cell? ⟨w.heap.size, 1, none⟩ = some (sv bp) := hB1.cell 1
        have b12 : w1.cell? ⟨w.heap.size, 2, none⟩ = some (sv bc) := hB1.cell 2
        have l10 : w1.cell? ⟨w.heap.size + 1, 0, none⟩ = some (.slice A lex.length c) := hL1.cell 0
        have p10 : w1.cell? ⟨w.heap.size + 1 + 1, 0, none⟩ = some (.int .i64 qr) := hP1.cell 0
        have p11 : w1.cell? ⟨w.heap.size + 1 + 1, 1, none⟩ = some (.int .i64 qc) := hP1.cell 1
        have p12 : w1.cell? ⟨w.heap.size + 1 + 1, 2, none⟩ = some (.bool _) := hP1.cell 2
        have p13 : w1.cell? ⟨w.heap.size + 1 + 1, 3, none⟩ = some (sv qw) := hP1.cell 3)
     | (go_at_call 97; refine (kp' _).mono ?_; rintro e w2 ⟨rfl, hb2⟩
        have htB2 := htB1.trans (hb2.mono htB1.size)
        have hB2 := hB1.below hb2 hB1.lt
        have hP2 := hP1.below hb2 hP1.lt
        have hL2 := hL1.below hb2 hL1.lt
        have hr2 := (hr1.below hb2).more hb2.size
        have ht2 := ht1.trans (hb2.mono ht1.size)
        have b20 : w2.cell? ⟨w.heap.size, 0, none⟩ = some (.int .i64 sz) := hB2.cell 0
        have b21 : w2.cell? ⟨w.heap.size, 1, none⟩ = some (sv bp) := hB2.cell 1
        have b22 : w2.cell? ⟨w.heap.size, 2, none⟩ = some (sv bc) := hB2.cell 2
        have l20 : w2.cell? ⟨w.heap.size + 1, 0, none⟩ = some (.slice A lex.length c) := hL2.cell 0
        have p20 : w2.cell? ⟨w.heap.size + 1 + 1, 0, none⟩ = some (.int .i64 qr) := hP2.cell 0
        have p21 : w2.cell? ⟨w.heap.size + 1 + 1, 1, none⟩ = some (.int .i64 qc) := hP2.cell 1
        have p22 : w2.cell? ⟨w.heap.size + 1 + 1, 2, none⟩ = some (.bool _) := hP2.cell 2
        have p23 : w2.cell? ⟨w.heap.size + 1 + 1, 3, none⟩ = some (sv qw) := hP2.cell 3)
     | (go_at_call 96; refine (ko _).mono ?_; rintro e w3 ⟨rfl, hb3⟩
        have ht3 := ht2.trans (hb3.mono ht2.size)))
   go_ret
   exact ⟨rfl, ht3⟩
 cases TI
 · obtain rfl : R = 6 := by rw [hdef]; rfl
   clear hdef
   go_enter Tryz.func92, Tryz.ntmps92
   go_wp2_with (first
     | (go_at_call 156; rw [← hW]; refine (kv _).mono ?_; rintro e w1 ⟨rfl, hb1⟩
        have htB1 := htBW.trans (hb1.mono htBW.size)
        have hB1 := hBW.below hb1 hBW.lt
        have hP1 := hPW.below hb1 hPW.lt
        have hL1 := hLW.below hb1 hLW.lt
        have hr1 := (hrW.below hb1).more hb1.size
        have ht1 := htW.trans (hb1.mono htW.size)
        have b10 : w1.cell? ⟨w.heap.size, 0, none⟩ = some (.int .i64 sz) := hB1.cell 0
        have b11 : w1.cell? ⟨w.heap.size, 1, none⟩ = some (sv bp) := hB1.cell 1
        have b12 : w1.cell? ⟨w.heap.size, 2, none⟩ = some (sv bc) := hB1.cell 2
        have l10 : w1.cell? ⟨w.heap.size + 1, 0, none⟩ = some (.slice A lex.length c) := hL1.cell 0
        have p10 : w1.cell? ⟨w.heap.size + 1 + 1, 0, none⟩ = some (.int .i64 qr) := hP1.cell 0
        have p11 : w1.cell? ⟨w.heap.size + 1 + 1, 1, none⟩ = some (.int .i64 qc) := hP1.cell 1
        have p12 : w1.cell? ⟨w.heap.size + 1 + 1, 2, none⟩ = some (.bool _) := hP1.cell 2
        have p13 : w1.cell? ⟨w.heap.size + 1 + 1, 3, none⟩ = some (sv qw) := hP1.cell 3)
     | (go_at_call 97; refine (kp' _).mono ?_; rintro e w2 ⟨rfl, hb2⟩
        have htB2 := htB1.trans (hb2.mono htB1.size)
        have hB2 := hB1.below hb2 hB1.lt
        have hP2 := hP1.below hb2 hP1.lt
        have hL2 := hL1.below hb2 hL1.lt
        have hr2 := (hr1.below hb2).more hb2.size
        have ht2 := ht1.trans (hb2.mono ht1.size)
        have b20 : w2.cell? ⟨w.heap.size, 0, none⟩ = some (.int .i64 sz) := hB2.cell 0
        have b21 : w2.cell? ⟨w.heap.size, 1, none⟩ = some (sv bp) := hB2.cell 1
        have b22 : w2.cell? ⟨w.heap.size, 2, none⟩ = some (sv bc) := hB2.cell 2
        have l20 : w2.cell? ⟨w.heap.size + 1, 0, none⟩ = some (.slice A lex.length c) := hL2.cell 0
        have p20 : w2.cell? ⟨w.heap.size + 1 + 1, 0, none⟩ = some (.int .i64 qr) := hP2.cell 0
        have p21 : w2.cell? ⟨w.heap.size + 1 + 1, 1, none⟩ = some (.int .i64 qc) := hP2.cell 1
        have p22 : w2.cell? ⟨w.heap.size + 1 + 1, 2, none⟩ = some (.bool _) := hP2.cell 2
        have p23 : w2.cell? ⟨w.heap.size + 1 + 1, 3, none⟩ = some (sv qw) := hP2.cell 3)
     | (go_at_call 96; refine (ko _).mono ?_; rintro e w3 ⟨rfl, hb3⟩
        have htB3 := htB2.trans (hb3.mono htB2.size)
        have hB3 := hB2.below hb3 hB2.lt
        have hP3 := hP2.below hb3 hP2.lt
        have hL3 := hL2.below hb3 hL2.lt
        have hr3 := (hr2.below hb3).more hb3.size
        have ht3 := ht2.trans (hb3.mono ht2.size)
        have b30 : w3.cell? ⟨w.heap.size, 0, none⟩ = some (.int .i64 sz) := hB3.cell 0
        have b31 : w3.cell? ⟨w.heap.size, 1, none⟩ = some (sv bp) := hB3.cell 1
        have b32 : w3.cell? ⟨w.heap.size, 2, none⟩ = some (sv bc) := hB3.cell 2
        have l30 : w3.cell? ⟨w.heap.size + 1, 0, none⟩ = some (.slice A lex.length c) := hL3.cell 0
        have p30 : w3.cell? ⟨w.heap.size + 1 + 1, 0, none⟩ = some (.int .i64 qr) := hP3.cell 0
        have p31 : w3.cell? ⟨w.heap.size + 1 + 1, 1, none⟩ = some (.int .i64 qc) := hP3.cell 1
        have p32 : w3.cell? ⟨w.heap.size + 1 + 1, 2, none⟩ = some (.bool _) := hP3.cell 2
        have p33 : w3.cell? ⟨w.heap.size + 1 + 1, 3, none⟩ = some (sv qw) := hP3.cell 3)
     | (go_at_call 157; refine (kn _).mono ?_; rintro e w4 ⟨v1, v2, rfl, ownA, ownB, hb4⟩; obtain ⟨A1, n1, rfl, hn1, -, -⟩ := own_form ownA; clear ownA ownB
        have htB4 := htB3.trans (hb4.mono htB3.size)
        have hB4 := hB3.below hb4 hB3.lt
        have hP4 := hP3.below hb4 hP3.lt
        have hL4 := hL3.below hb4 hL3.lt
        have hr4 := (hr3.below hb4).more hb4.size
        have ht4 := ht3.trans (hb4.mono ht3.size)
        have b40 : w4.cell? ⟨w.heap.size, 0, none⟩ = some (.int .i64 sz) := hB4.cell 0
        have b41 : w4.cell? ⟨w.heap.size, 1, none⟩ = some (sv bp) := hB4.cell 1
        have b42 : w4.cell? ⟨w.heap.size, 2, none⟩ = some (sv bc) := hB4.cell 2
        have l40 : w4.cell? ⟨w.heap.size + 1, 0, none⟩ = some (.slice A lex.length c) := hL4.cell 0
        have p40 : w4.cell? ⟨w.heap.size + 1 + 1, 0, none⟩ = some (.int .i64 qr) := hP4.cell 0
        have p41 : w4.cell? ⟨w.heap.size + 1 + 1, 1, none⟩ = some (.int .i64 qc) := hP4.cell 1
        have p42 : w4.cell? ⟨w.heap.size + 1 + 1, 2, none⟩ = some (.bool _) := hP4.cell 2
        have p43 : w4.cell? ⟨w.heap.size + 1 + 1, 3, none⟩ = some (sv qw) := hP4.cell 3
        have htb := htB4)
     | (go_at_call 158; refine (kt' _ (hmW.below htb)).mono ?_; rintro e w5 ⟨rfl, hb5⟩
        have ht5 := ht4.trans (hb5.mono ht4.size)))
   go_ret
   exact ⟨rfl, ht5⟩
 have hd2 : Hid (R = if qd && (decide (N.length = 1) && decide (1 < WI.length)) then 4 else if 0 < XS.length then 9 else 0) := Lib.hid (by rw [hdef]; rfl)
 clear hdef
 cases qd
 · have hd3 : Hid (R = if 0 < XS.length then 9 else 0) := Lib.hid (by rw [hd2.out]; rfl)
   by_cases hx : 0 < XS.length
   · obtain rfl : R = 9 := by rw [hd3.out, if_pos hx]
     have hx' : (0 : Int) < (XS.length : Int) := by omega
     clear hd2 hd3
     go_enter Tryz.func92, Tryz.ntmps92
     go_wp2_with (first
       | (go_at_call 156; rw [← hW]; refine (kv _).mono ?_; rintro e w1 ⟨rfl, hb1⟩
          have htB1 := htBW.trans (hb1.mono htBW.size)
          have hB1 := hBW.below hb1 hBW.lt
          have hP1 := hPW.below hb1 hPW.lt
          have hL1 := hLW.below hb1 hLW.lt
          have hr1 := (hrW.below hb1).more hb1.size
          have ht1 := htW.trans (hb1.mono htW.size)
          have b10 : w1.cell? ⟨w.heap.size, 0, none⟩ = some (.int .i64 sz) := hB1.cell 0
          have b11 : w1.cell? ⟨w.heap.size, 1, none⟩ = some (sv bp) := hB1.cell 1
          have b12 : w1.cell? ⟨w.heap.size, 2, none⟩ = some (sv bc) := hB1.cell 2
          have l10 : w1.cell? ⟨w.heap.size + 1, 0, none⟩ = some (.slice A lex.length c) := hL1.cell 0
          have p10 : w1.cell? ⟨w.heap.size + 1 + 1, 0, none⟩ = some (.int .i64 qr) := hP1.cell 0
          have p11 : w1.cell? ⟨w.heap.size + 1 + 1, 1, none⟩ = some (.int .i64 qc) := hP1.cell 1
          have p12 : w1.cell? ⟨w.heap.size + 1 + 1, 2, none⟩ = some (.bool _) := hP1.cell 2
          have p13 : w1.cell? ⟨w.heap.size + 1 + 1, 3, none⟩ = some (sv qw) := hP1.cell 3)
       | (go_at_call 97; refine (kp' _).mono ?_; rintro e w2 ⟨rfl, hb2⟩
          have htB2 := htB1.trans (hb2.mono htB1.size)
          have hB2 := hB1.below hb2 hB1.lt
          have hP2 := hP1.below hb2 hP1.lt
          have hL2 := hL1.below hb2 hL1.lt
          have hr2 := (hr1.below hb2).more hb2.size
          have ht2 := ht1.trans (hb2.mono ht1.size)
          have b20 : w2.cell? ⟨w.heap.size, 0, none⟩ = some (.int .i64 sz) := hB2.cell 0
          have b21 : w2.cell? ⟨w.heap.size, 1, none⟩ = some (sv bp) := hB2.cell 1
          have b22 : w2.cell? ⟨w.heap.size, 2, none⟩ = some (sv bc) := hB2.cell 2
          have l20 : w2.cell? ⟨w.heap.size + 1, 0, none⟩ = some (.slice A lex.length c) := hL2.cell 0
          have p20 : w2.cell? ⟨w.heap.size + 1 + 1, 0, none⟩ = some (.int .i64 qr) := hP2.cell 0
          have p21 : w2.cell? ⟨w.heap.size + 1 + 1, 1, none⟩ = some (.int .i64 qc) := hP2.cell 1
          have p22 : w2.cell? ⟨w.heap.size + 1 + 1, 2, none⟩ = some (.bool _) := hP2.cell 2
          have p23 : w2.cell? ⟨w.heap.size + 1 + 1, 3, none⟩ = some (sv qw) := hP2.cell 3)
       | (go_at_call 96; refine (ko _).mono ?_; rintro e w3 ⟨rfl, hb3⟩
          have htB3 := htB2.trans (hb3.mono htB2.size)
          have hB3 := hB2.below hb3 hB2.lt
          have hP3 := hP2.below hb3 hP2.lt
          have hL3 := hL2.below hb3 hL2.lt
          have hr3 := (hr2.below hb3).more hb3.size
          have ht3 := ht2.trans (hb3.mono ht2.size)
          have b30 : w3.cell? ⟨w.heap.size, 0, none⟩ = some (.int .i64 sz) := hB3.cell 0
          have b31 : w3.cell? ⟨w.heap.size, 1, none⟩ = some (sv bp) := hB3.cell 1
          have b32 : w3.cell? ⟨w.heap.size, 2, none⟩ = some (sv bc) := hB3.cell 2
          have l30 : w3.cell? ⟨w.heap.size + 1, 0, none⟩ = some (.slice A lex.length c) := hL3.cell 0
          have p30 : w3.cell? ⟨w.heap.size + 1 + 1, 0, none⟩ = some (.int .i64 qr) := hP3.cell 0
          have p31 : w3.cell? ⟨w.heap.size + 1 + 1, 1, none⟩ = some (.int .i64 qc) := hP3.cell 1
          have p32 : w3.cell? ⟨w.heap.size + 1 + 1, 2, none⟩ = some (.bool _) := hP3.cell 2
          have p33 : w3.cell? ⟨w.heap.size + 1 + 1, 3, none⟩ = some (sv qw) := hP3.cell 3)
       | (go_at_call 157; refine (kn _).mono ?_; rintro e w4 ⟨v1, v2, rfl, ownA, ownB, hb4⟩; obtain ⟨A1, n1, rfl, hn1, -, -⟩ := own_form ownA; clear ownA ownB
          have htB4 := htB3.trans (hb4.mono htB3.size)
          have hB4 := hB3.below hb4 hB3.lt
          have hP4 := hP3.below hb4 hP3.lt
          have hL4 := hL3.below hb4 hL3.lt
          have hr4 := (hr3.below hb4).more hb4.size
          have ht4 := ht3.trans (hb4.mono ht3.size)
          have b40 : w4.cell? ⟨w.heap.size, 0, none⟩ = some (.int .i64 sz) := hB4.cell 0
          have b41 : w4.cell? ⟨w.heap.size, 1, none⟩ = some (sv bp) := hB4.cell 1
          have b42 : w4.cell? ⟨w.heap.size, 2, none⟩ = some (sv bc) := hB4.cell 2
          have l40 : w4.cell? ⟨w.heap.size + 1, 0, none⟩ = some (.slice A lex.length c) := hL4.cell 0
          have p40 : w4.cell? ⟨w.heap.size + 1 + 1, 0, none⟩ = some (.int .i64 qr) := hP4.cell 0
          have p41 : w4.cell? ⟨w.heap.size + 1 + 1, 1, none⟩ = some (.int .i64 qc) := hP4.cell 1
          have p42 : w4.cell? ⟨w.heap.size + 1 + 1, 2, none⟩ = some (.bool _) := hP4.cell 2
          have p43 : w4.cell? ⟨w.heap.size + 1 + 1, 3, none⟩ = some (sv qw) := hP4.cell 3
          have htb := htB4)
       | (go_at_call 158; refine (kt' _ (hmW.below htb)).mono ?_; rintro e w5 ⟨rfl, hb5⟩
          have htB5 := htB4.trans (hb5.mono htB4.size)
          have hB5 := hB4.below hb5 hB4.lt
          have hP5 := hP4.below hb5 hP4.lt
          have hL5 := hL4.below hb5 hL4.lt
          have hr5 := (hr4.below hb5).more hb5.size
          have ht5 := ht4.trans (hb5.mono ht4.size)
          have b50 : w5.cell? ⟨w.heap.size, 0, none⟩ = some (.int .i64 sz) := hB5.cell 0
          have b51 : w5.cell? ⟨w.heap.size, 1, none⟩ = some (sv bp) := hB5.cell 1
          have b52 : w5.cell? ⟨w.heap.size, 2, none⟩ = some (sv bc) := hB5.cell 2
          have l50 : w5.cell? ⟨w.heap.size + 1, 0, none⟩ = some (.slice A lex.length c) := hL5.cell 0
          have p50 : w5.cell? ⟨w.heap.size + 1 + 1, 0, none⟩ = some (.int .i64 qr) := hP5.cell 0
          have p51 : w5.cell? ⟨w.heap.size + 1 + 1, 1, none⟩ = some (.int .i64 qc) := hP5.cell 1
          have p52 : w5.cell? ⟨w.heap.size + 1 + 1, 2, none⟩ = some (.bool _) := hP5.cell 2
          have p53 : w5.cell? ⟨w.heap.size + 1 + 1, 3, none⟩ = some (sv qw) := hP5.cell 3)
       | (go_at_call 160; refine (kx' _ hr5).mono ?_; rintro e w6 ⟨v4, rfl, ow4, hb6⟩; obtain ⟨A4, n4, rfl, hn4, hr4x⟩ := own_sl ow4; clear ow4 hr4x
          have ht6 := ht5.trans (hb6.mono ht5.size)))
     go_ret
     exact ⟨rfl, ht6⟩
   · obtain rfl : R = 0 := by rw [hd3.out, if_neg hx]
     have hx' : ¬ (0 : Int) < (XS.length : Int) := by omega
     clear hd2 hd3
     go_enter Tryz.func92, Tryz.ntmps92
     go_wp2_with (first
       | (go_at_call 156; rw [← hW]; refine (kv _).mono ?_; rintro e w1 ⟨rfl, hb1⟩
          have htB1 := htBW.trans (hb1.mono htBW.size)
          have hB1 := hBW.below hb1 hBW.lt
          have hP1 := hPW.below hb1 hPW.lt
          have hL1 := hLW.below hb1 hLW.lt
          have hr1 := (hrW.below hb1).more hb1.size
          have ht1 := htW.trans (hb1.mono htW.size)
          have b10 : w1.cell? ⟨w.heap.size, 0, none⟩ = some (.int .i64 sz) := hB1.cell 0
          have b11 : w1.cell? ⟨w.heap.size, 1, none⟩ = some (sv bp) := hB1.cell 1
          have b12 : w1.cell? ⟨w.heap.size, 2, none⟩ = some (sv bc) := hB1.cell 2
          have l10 : w1.cell? ⟨w.heap.size + 1, 0, none⟩ = some (.slice A lex.length c) := hL1.cell 0
          have p10 : w1.cell? ⟨w.heap.size + 1 + 1, 0, none⟩ = some (.int .i64 qr) := hP1.cell 0
          have p11 : w1.cell? ⟨w.heap.size + 1 + 1, 1, none⟩ = some (.int .i64 qc) := hP1.cell 1
          have p12 : w1.cell? ⟨w.heap.size + 1 + 1, 2, none⟩ = some (.bool _) := hP1.cell 2
          have p13 : w1.cell? ⟨w.heap.size + 1 + 1, 3, none⟩ = some (sv qw) := hP1.cell 3)
       | (go_at_call 97; refine (kp' _).mono ?_; rintro e w2 ⟨rfl, hb2⟩
          have htB2 := htB1.trans (hb2.mono htB1.size)
          have hB2 := hB1.below hb2 hB1.lt
          have hP2 := hP1.below hb2 hP1.lt
          have hL2 := hL1.below hb2 hL1.lt
          have hr2 := (hr1.below hb2).more hb2.size
          have ht2 := ht1.trans (hb2.mono ht1.size)
          have b20 : w2.cell? ⟨w.heap.size, 0, none⟩ = some (.int .i64 sz) := hB2.cell 0
          have b21 : w2.cell? ⟨w.heap.size, 1, none⟩ = some (sv bp) := hB2.cell 1
          have b22 : w2.cell? ⟨w.heap.size, 2, none⟩ = some (sv bc) := hB2.cell 2
          have l20 : w2.cell? ⟨w.heap.size + 1, 0, none⟩ = some (.slice A lex.length c) := hL2.cell 0
          have p20 : w2.cell? ⟨w.heap.size + 1 + 1, 0, none⟩ = some (.int .i64 qr) := hP2.cell 0
          have p21 : w2.cell? ⟨w.heap.size + 1 + 1, 1, none⟩ = some (.int .i64 qc) := hP2.cell 1
          have p22 : w2.cell? ⟨w.heap.size + 1 + 1, 2, none⟩ = some (.bool _) := hP2.cell 2
          have p23 : w2.cell? ⟨w.heap.size + 1 + 1, 3, none⟩ = some (sv qw) := hP2.cell 3)
       | (go_at_call 96; refine (ko _).mono ?_; rintro e w3 ⟨rfl, hb3⟩
          have htB3 := htB2.trans (hb3.mono htB2.size)
          have hB3 := hB2.below hb3 hB2.lt
          have hP3 := hP2.below hb3 hP2.lt
          have hL3 := hL2.below hb3 hL2.lt
          have hr3 := (hr2.below hb3).more hb3.size
          have ht3 := ht2.trans (hb3.mono ht2.size)
          have b30 : w3.cell? ⟨w.heap.size, 0, none⟩ = some (.int .i64 sz) := hB3.cell 0
          have b31 : w3.cell? ⟨w.heap.size, 1, none⟩ = some (sv bp) := hB3.cell 1
          have b32 : w3.cell? ⟨w.heap.size, 2, none⟩ = some (sv bc) := hB3.cell 2
          have l30 : w3.cell? ⟨w.heap.size + 1, 0, none⟩ = some (.slice A lex.length c) := hL3.cell 0
          have p30 : w3.cell? ⟨w.heap.size + 1 + 1, 0, none⟩ = some (.int .i64 qr) := hP3.cell 0
          have p31 : w3.cell? ⟨w.heap.size + 1 + 1, 1, none⟩ = some (.int .i64 qc) := hP3.cell 1
          have p32 : w3.cell? ⟨w.heap.size + 1 + 1, 2, none⟩ = some (.bool _) := hP3.cell 2
          have p33 : w3.cell? ⟨w.heap.size + 1 + 1, 3, none⟩ = some (sv qw) := hP3.cell 3)
       | (go_at_call 157; refine (kn _).mono ?_; rintro e w4 ⟨v1, v2, rfl, ownA, ownB, hb4⟩; obtain ⟨A1, n1, rfl, hn1, -, -⟩ := own_form ownA; clear ownA ownB
          have htB4 := htB3.trans (hb4.mono htB3.size)
          have hB4 := hB3.below hb4 hB3.lt
          have hP4 := hP3.below hb4 hP3.lt
          have hL4 := hL3.below hb4 hL3.lt
          have hr4 := (hr3.below hb4).more hb4.size
          have ht4 := ht3.trans (hb4.mono ht3.size)
          have b40 : w4.cell? ⟨w.heap.size, 0, none⟩ = some (.int .i64 sz) := hB4.cell 0
          have b41 : w4.cell? ⟨w.heap.size, 1, none⟩ = some (sv bp) := hB4.cell 1
          have b42 : w4.cell? ⟨w.heap.size, 2, none⟩ = some (sv bc) := hB4.cell 2
          have l40 : w4.cell? ⟨w.heap.size + 1, 0, none⟩ = some (.slice A lex.length c) := hL4.cell 0
          have p40 : w4.cell? ⟨w.heap.size + 1 + 1, 0, none⟩ = some (.int .i64 qr) := hP4.cell 0
          have p41 : w4.cell? ⟨w.heap.size + 1 + 1, 1, none⟩ = some (.int .i64 qc) := hP4.cell 1
          have p42 : w4.cell? ⟨w.heap.size + 1 + 1, 2, none⟩ = some (.bool _) := hP4.cell 2
          have p43 : w4.cell? ⟨w.heap.size + 1 + 1, 3, none⟩ = some (sv qw) := hP4.cell 3
          have htb := htB4)
       | (go_at_call 158; refine (kt' _ (hmW.below htb)).mono ?_; rintro e w5 ⟨rfl, hb5⟩
          have htB5 := htB4.trans (hb5.mono htB4.size)
          have hB5 := hB4.below hb5 hB4.lt
          have hP5 := hP4.below hb5 hP4.lt
          have hL5 := hL4.below hb5 hL4.lt
          have hr5 := (hr4.below hb5).more hb5.size
          have ht5 := ht4.trans (hb5.mono ht4.size)
          have b50 : w5.cell? ⟨w.heap.size, 0, none⟩ = some (.int .i64 sz) := hB5.cell 0
          have b51 : w5.cell? ⟨w.heap.size, 1, none⟩ = some (sv bp) := hB5.cell 1
          have b52 : w5.cell? ⟨w.heap.size, 2, none⟩ = some (sv bc) := hB5.cell 2
          have l50 : w5.cell? ⟨w.heap.size + 1, 0, none⟩ = some (.slice A lex.length c) := hL5.cell 0
          have p50 : w5.cell? ⟨w.heap.size + 1 + 1, 0, none⟩ = some (.int .i64 qr) := hP5.cell 0
          have p51 : w5.cell? ⟨w.heap.size + 1 + 1, 1, none⟩ = some (.int .i64 qc) := hP5.cell 1
          have p52 : w5.cell? ⟨w.heap.size + 1 + 1, 2, none⟩ = some (.bool _) := hP5.cell 2
          have p53 : w5.cell? ⟨w.heap.size + 1 + 1, 3, none⟩ = some (sv qw) := hP5.cell 3)
       | (go_at_call 160; refine (kx' _ hr5).mono ?_; rintro e w6 ⟨v4, rfl, ow4, hb6⟩; obtain ⟨A4, n4, rfl, hn4, hr4x⟩ := own_sl ow4; clear ow4 hr4x
          have ht6 := ht5.trans (hb6.mono ht5.size)))
     go_ret
     exact ⟨rfl, ht6⟩
 by_cases hn1 : N.length = 1
 · have hn1' : ((N.length : Int) == 1) = true := by rw [beq_iff_eq]; omega
   by_cases hw1 : 1 < WI.length
   · obtain rfl : R = 4 := by rw [hd2.out, decide_eq_true hn1, decide_eq_true hw1]; rfl
     have hw1' : (1 : Int) < (WI.length : Int) := by omega
     clear hd2
     go_enter Tryz.func92, Tryz.ntmps92
     go_wp2_with (first
       | (go_at_call 156; rw [← hW]; refine (kv _).mono ?_; rintro e w1 ⟨rfl, hb1⟩
          have htB1 := htBW.trans (hb1.mono htBW.size)
          have hB1 := hBW.below hb1 hBW.lt
          have hP1 := hPW.below hb1 hPW.lt
          have hL1 := hLW.below hb1 hLW.lt
          have hr1 := (hrW.below hb1).more hb1.size
          have ht1 := htW.trans (hb1.mono htW.size)
          have b10 : w1.cell? ⟨w.heap.size, 0, none⟩ = some (.int .i64 sz) := hB1.cell 0
          have b11 : w1.cell? ⟨w.heap.size, 1, none⟩ = some (sv bp) := hB1.cell 1
          have b12 : w1.cell? ⟨w.heap.size, 2, none⟩ = some (sv bc) := hB1.cell 2
          have l10 : w1.cell? ⟨w.heap.size + 1, 0, none⟩ = some (.slice A lex.length c) := hL1.cell 0
          have p10 : w1.cell? ⟨w.heap.size + 1 + 1, 0, none⟩ = some (.int .i64 qr) := hP1.cell 0
          have p11 : w1.cell? ⟨w.heap.size + 1 + 1, 1, none⟩ = some (.int .i64 qc) := hP1.cell 1
          have p12 : w1.cell? ⟨w.heap.size + 1 + 1, 2, none⟩ = some (.bool _) := hP1.cell 2
          have p13 : w1.cell? ⟨w.heap.size + 1 + 1, 3, none⟩ = some (sv qw) := hP1.cell 3)
       | (go_at_call 97; refine (kp' _).mono ?_; rintro e w2 ⟨rfl, hb2⟩
          have htB2 := htB1.trans (hb2.mono htB1.size)
          have hB2 := hB1.below hb2 hB1.lt
          have hP2 := hP1.below hb2 hP1.lt
          have hL2 := hL1.below hb2 hL1.lt
          have hr2 := (hr1.below hb2).more hb2.size
          have ht2 := ht1.trans (hb2.mono ht1.size)
          have b20 : w2.cell? ⟨w.heap.size, 0, none⟩ = some (.int .i64 sz) := hB2.cell 0
          have b21 : w2.cell? ⟨w.heap.size, 1, none⟩ = some (sv bp) := hB2.cell 1
          have b22 : w2.cell? ⟨w.heap.size, 2, none⟩ = some (sv bc) := hB2.cell 2
          have l20 : w2.cell? ⟨w.heap.size + 1, 0, none⟩ = some (.slice A lex.length c) := hL2.cell 0
          have p20 : w2.cell? ⟨w.heap.size + 1 + 1, 0, none⟩ = some (.int .i64 qr) := hP2.cell 0
          have p21 : w2.cell? ⟨w.heap.size + 1 + 1, 1, none⟩ = some (.int .i64 qc) := hP2.cell 1
          have p22 : w2.cell? ⟨w.heap.size + 1 + 1, 2, none⟩ = some (.bool _) := hP2.cell 2
          have p23 : w2.cell? ⟨w.heap.size + 1 + 1, 3, none⟩ = some (sv qw) := hP2.cell 3)
       | (go_at_call 96; refine (ko _).mono ?_; rintro e w3 ⟨rfl, hb3⟩
          have htB3 := htB2.trans (hb3.mono htB2.size)
          have hB3 := hB2.below hb3 hB2.lt
          have hP3 := hP2.below hb3 hP2.lt
          have hL3 := hL2.below hb3 hL2.lt
          have hr3 := (hr2.below hb3).more hb3.size
          have ht3 := ht2.trans (hb3.mono ht2.size)
          have b30 : w3.cell? ⟨w.heap.size, 0, none⟩ = some (.int .i64 sz) := hB3.cell 0
          have b31 : w3.cell? ⟨w.heap.size, 1, none⟩ = some (sv bp) := hB3.cell 1
          have b32 : w3.cell? ⟨w.heap.size, 2, none⟩ = some (sv bc) := hB3.cell 2
          have l30 : w3.cell? ⟨w.heap.size + 1, 0, none⟩ = some (.slice A lex.length c) := hL3.cell 0
          have p30 : w3.cell? ⟨w.heap.size + 1 + 1, 0, none⟩ = some (.int .i64 qr) := hP3.cell 0
          have p31 : w3.cell? ⟨w.heap.size + 1 + 1, 1, none⟩ = some (.int .i64 qc) := hP3.cell 1
          have p32 : w3.cell? ⟨w.heap.size + 1 + 1, 2, none⟩ = some (.bool _) := hP3.cell 2
          have p33 : w3.cell? ⟨w.heap.size + 1 + 1, 3, none⟩ = some (sv qw) := hP3.cell 3)
       | (go_at_call 157; refine (kn _).mono ?_; rintro e w4 ⟨v1, v2, rfl, ownA, ownB, hb4⟩; obtain ⟨A1, n1, rfl, hn1, -, -⟩ := own_form ownA; clear ownA ownB
          have htB4 := htB3.trans (hb4.mono htB3.size)
          have hB4 := hB3.below hb4 hB3.lt
          have hP4 := hP3.below hb4 hP3.lt
          have hL4 := hL3.below hb4 hL3.lt
          have hr4 := (hr3.below hb4).more hb4.size
          have ht4 := ht3.trans (hb4.mono ht3.size)
          have b40 : w4.cell? ⟨w.heap.size, 0, none⟩ = some (.int .i64 sz) := hB4.cell 0
          have b41 : w4.cell? ⟨w.heap.size, 1, none⟩ = some (sv bp) := hB4.cell 1
          have b42 : w4.cell? ⟨w.heap.size, 2, none⟩ = some (sv bc) := hB4.cell 2
          have l40 : w4.cell? ⟨w.heap.size + 1, 0, none⟩ = some (.slice A lex.length c) := hL4.cell 0
          have p40 : w4.cell? ⟨w.heap.size + 1 + 1, 0, none⟩ = some (.int .i64 qr) := hP4.cell 0
          have p41 : w4.cell? ⟨w.heap.size + 1 + 1, 1, none⟩ = some (.int .i64 qc) := hP4.cell 1
          have p42 : w4.cell? ⟨w.heap.size + 1 + 1, 2, none⟩ = some (.bool _) := hP4.cell 2
          have p43 : w4.cell? ⟨w.heap.size + 1 + 1, 3, none⟩ = some (sv qw) := hP4.cell 3
          have htb := htB4)
       | (go_at_call 158; refine (kt' _ (hmW.below htb)).mono ?_; rintro e w5 ⟨rfl, hb5⟩
          have htB5 := htB4.trans (hb5.mono htB4.size)
          have hB5 := hB4.below hb5 hB4.lt
          have hP5 := hP4.below hb5 hP4.lt
          have hL5 := hL4.below hb5 hL4.lt
          have hr5 := (hr4.below hb5).more hb5.size
          have ht5 := ht4.trans (hb5.mono ht4.size)
          have b50 : w5.cell? ⟨w.heap.size, 0, none⟩ = some (.int .i64 sz) := hB5.cell 0
          have b51 : w5.cell? ⟨w.heap.size, 1, none⟩ = some (sv bp) := hB5.cell 1
          have b52 : w5.cell? ⟨w.heap.size, 2, none⟩ = some (sv bc) := hB5.cell 2
          have l50 : w5.cell? ⟨w.heap.size + 1, 0, none⟩ = some (.slice A lex.length c) := hL5.cell 0
          have p50 : w5.cell? ⟨w.heap.size + 1 + 1, 0, none⟩ = some (.int .i64 qr) := hP5.cell 0
          have p51 : w5.cell? ⟨w.heap.size + 1 + 1, 1, none⟩ = some (.int .i64 qc) := hP5.cell 1
          have p52 : w5.cell? ⟨w.heap.size + 1 + 1, 2, none⟩ = some (.bool _) := hP5.cell 2
          have p53 : w5.cell? ⟨w.heap.size + 1 + 1, 3, none⟩ = some (sv qw) := hP5.cell 3)
       | (go_at_call 159; refine (kw' _).mono ?_; rintro e w6 ⟨v3, rfl, ow3, hb6⟩; obtain ⟨A3, n3, rfl, hn3, hr3x⟩ := own_sl ow3; clear ow3 hr3x
          have ht6 := ht5.trans (hb6.mono ht5.size)))
     go_ret
     exact ⟨rfl, ht6⟩
   · have hd3 : Hid (R = if 0 < XS.length then 9 else 0) := Lib.hid (by rw [hd2.out, decide_eq_true hn1, decide_eq_false hw1]; rfl)
     have hw1' : ¬ (1 : Int) < (WI.length : Int) := by omega
     by_cases hx : 0 < XS.length
     · obtain rfl : R = 9 := by rw [hd3.out, if_pos hx]
       have hx' : (0 : Int) < (XS.length : Int) := by omega
       clear hd2 hd3
       go_enter Tryz.func92, Tryz.ntmps92
       go_wp2_with (first
         | (go_at_call 156; rw [← hW]; refine (kv _).mono ?_; rintro e w1 ⟨rfl, hb1⟩
            have htB1 := htBW.trans (hb1.mono htBW.size)
            have hB1 := hBW.below hb1 hBW.lt
            have hP1 := hPW.below hb1 hPW.lt
            have hL1 := hLW.below hb1 hLW.lt
            have hr1 := (hrW.below hb1).more hb1.size
            have ht1 := htW.trans (hb1.mono htW.size)
            have b10 : w1.cell? ⟨w.heap.size, 0, none⟩ = some (.int .i64 sz) := hB1.cell 0
            have b11 : w1.cell? ⟨w.heap.size, 1, none⟩ = some (sv bp) := hB1.cell 1
            have b12 : w1.cell? ⟨w.heap.size, 2, none⟩ = some (sv bc) := hB1.cell 2
            have l10 : w1.cell? ⟨w.heap.size + 1, 0, none⟩ = some (.slice A lex.length c) := hL1.cell 0
            have p10 : w1.cell? ⟨w.heap.size + 1 + 1, 0, none⟩ = some (.int .i64 qr) := hP1.cell 0
            have p11 : w1.cell? ⟨w.heap.size + 1 + 1, 1, none⟩ = some (.int .i64 qc) := hP1.cell 1
            have p12 : w1.cell? ⟨w.heap.size + 1 + 1, 2, none⟩ = some (.bool _) := hP1.cell 2
            have p13 : w1.cell? ⟨w.heap.size + 1 + 1, 3, none⟩ = some (sv qw) := hP1.cell 3)
         | (go_at_call 97; refine (kp' _).mono ?_; rintro e w2 ⟨rfl, hb2⟩
            have htB2 := htB1.trans (hb2.mono htB1.size)
            have hB2 := hB1.below hb2 hB1.lt
            have hP2 := hP1.below hb2 hP1.lt
            have hL2 := hL1.below hb2 hL1.lt
            have hr2 := (hr1.below hb2).more hb2.size
            have ht2 := ht1.trans (hb2.mono ht1.size)
            have b20 : w2.cell? ⟨w.heap.size, 0, none⟩ = some (.int .i64 sz) := hB2.cell 0
            have b21 : w2.cell? ⟨w.heap.size, 1, none⟩ = some (sv bp) := hB2.cell 1
            have b22 : w2.cell? ⟨w.heap.size, 2, none⟩ = some (sv bc) := hB2.cell 2
            have l20 : w2.cell? ⟨w.heap.size + 1, 0, none⟩ = some (.slice A lex.length c) := hL2.cell 0
            have p20 : w2.cell? ⟨w.heap.size + 1 + 1, 0, none⟩ = some (.int .i64 qr) := hP2.cell 0
            have p21 : w2.cell? ⟨w.heap.size + 1 + 1, 1, none⟩ = some (.int .i64 qc) := hP2.cell 1
            have p22 : w2.cell? ⟨w.heap.size + 1 + 1, 2, none⟩ = some (.bool _) := hP2.cell 2
            have p23 : w2.cell? ⟨w.heap.size + 1 + 1, 3, none⟩ = some (sv qw) := hP2.cell 3)
         | (go_at_call 96; refine (ko _).mono ?_; rintro e w3 ⟨rfl, hb3⟩
            have htB3 := htB2.trans (hb3.mono htB2.size)
            have hB3 := hB2.below hb3 hB2.lt
            have hP3 := hP2.below hb3 hP2.lt
            have hL3 := hL2.below hb3 hL2.lt
            have hr3 := (hr2.below hb3).more hb3.size
            have ht3 := ht2.trans (hb3.mono ht2.size)
            have b30 : w3.cell? ⟨w.heap.size, 0, none⟩ = some (.int .i64 sz) := hB3.cell 0
            have b31 : w3.cell? ⟨w.heap.size, 1, none⟩ = some (sv bp) := hB3.cell 1
            have b32 : w3.cell? ⟨w.heap.size, 2, none⟩ = some (sv bc) := hB3.cell 2
            have l30 : w3.cell? ⟨w.heap.size + 1, 0, none⟩ = some (.slice A lex.length c) := hL3.cell 0
            have p30 : w3.cell? ⟨w.heap.size + 1 + 1, 0, none⟩ = some (.int .i64 qr) := hP3.cell 0
            have p31 : w3.cell? ⟨w.heap.size + 1 + 1, 1, none⟩ = some (.int .i64 qc) := hP3.cell 1
            have p32 : w3.cell? ⟨w.heap.size + 1 + 1, 2, none⟩ = some (.bool _) := hP3.cell 2
            have p33 : w3.cell? ⟨w.heap.size + 1 + 1, 3, none⟩ = some (sv qw) := hP3.cell 3)
         | (go_at_call 157; refine (kn _).mono ?_; rintro e w4 ⟨v1, v2, rfl, ownA, ownB, hb4⟩; obtain ⟨A1, n1, rfl, hn1, -, -⟩ := own_form ownA; clear ownA ownB
            have htB4 := htB3.trans (hb4.mono htB3.size)
            have hB4 := hB3.below hb4 hB3.lt
            have hP4 := hP3.below hb4 hP3.lt
            have hL4 := hL3.below hb4 hL3.lt
            have hr4 := (hr3.below hb4).more hb4.size
            have ht4 := ht3.trans (hb4.mono ht3.size)
            have b40 : w4.cell? ⟨w.heap.size, 0, none⟩ = some (.int .i64 sz) := hB4.cell 0
            have b41 : w4.cell? ⟨w.heap.size, 1, none⟩ = some (sv bp) := hB4.cell 1
            have b42 : w4.cell? ⟨w.heap.size, 2, none⟩ = some (sv bc) := hB4.cell 2
            have l40 : w4.cell? ⟨w.heap.size + 1, 0, none⟩ = some (.slice A lex.length c) := hL4.cell 0
            have p40 : w4.cell? ⟨w.heap.size + 1 + 1, 0, none⟩ = some (.int .i64 qr) := hP4.cell 0
            have p41 : w4.cell? ⟨w.heap.size + 1 + 1, 1, none⟩ = some (.int .i64 qc) := hP4.cell 1
            have p42 : w4.cell? ⟨w.heap.size + 1 + 1, 2, none⟩ = some (.bool _) := hP4.cell 2
            have p43 : w4.cell? ⟨w.heap.size + 1 + 1, 3, none⟩ = some (sv qw) := hP4.cell 3
            have htb := htB4)
         | (go_at_call 158; refine (kt' _ (hmW.below htb)).mono ?_; rintro e w5 ⟨rfl, hb5⟩
            have htB5 := htB4.trans (hb5.mono htB4.size)
            have hB5 := hB4.below hb5 hB4.lt
            have hP5 := hP4.below hb5 hP4.lt
            have hL5 := hL4.below hb5 hL4.lt
            have hr5 := (hr4.below hb5).more hb5.size
            have ht5 := ht4.trans (hb5.mono ht4.size)
            have b50 : w5.cell? ⟨w.heap.size, 0, none⟩ = some (.int .i64 sz) := hB5.cell 0
            have b51 : w5.cell? ⟨w.heap.size, 1, none⟩ = some (sv bp) := hB5.cell 1
            have b52 : w5.cell? ⟨w.heap.size, 2, none⟩ = some (sv bc) := hB5.cell 2
            have l50 : w5.cell? ⟨w.heap.size + 1, 0, none⟩ = some (.slice A lex.length c) := hL5.cell 0
            have p50 : w5.cell? ⟨w.heap.size + 1 + 1, 0, none⟩ = some (.int .i64 qr) := hP5.cell 0
            have p51 : w5.cell? ⟨w.heap.size + 1 + 1, 1, none⟩ = some (.int .i64 qc) := hP5.cell 1
            have p52 : w5.cell? ⟨w.heap.size + 1 + 1, 2, none⟩ = some (.bool _) := hP5.cell 2
            have p53 : w5.cell? ⟨w.heap.size + 1 + 1, 3, none⟩ = some (sv qw) := hP5.cell 3)
         | (go_at_call 159; refine (kw' _).mono ?_; rintro e w6 ⟨v3, rfl, ow3, hb6⟩; obtain ⟨A3, n3, rfl, hn3, hr3x⟩ := own_sl ow3; clear ow3 hr3x
            have htB6 := htB5.trans (hb6.mono htB5.size)
            have hB6 := hB5.below hb6 hB5.lt
            have hP6 := hP5.below hb6 hP5.lt
            have hL6 := hL5.below hb6 hL5.lt
            have hr6 := (hr5.below hb6).more hb6.size
            have ht6 := ht5.trans (hb6.mono ht5.size)
            have b60 : w6.cell? ⟨w.heap.size, 0, none⟩ = some (.int .i64 sz) := hB6.cell 0
            have b61 : w6.cell? ⟨w.heap.size, 1, none⟩ = some (sv bp) := hB6.cell 1
            have b62 : w6.cell? ⟨w.heap.size, 2, none⟩ = some (sv bc) := hB6.cell 2
            have l60 : w6.cell? ⟨w.heap.size + 1, 0, none⟩ = some (.slice A lex.length c) := hL6.cell 0
            have p60 : w6.cell? ⟨w.heap.size + 1 + 1, 0, none⟩ = some (.int .i64 qr) := hP6.cell 0
            have p61 : w6.cell? ⟨w.heap.size + 1 + 1, 1, none⟩ = some (.int .i64 qc) := hP6.cell 1
            have p62 : w6.cell? ⟨w.heap.size + 1 + 1, 2, none⟩ = some (.bool _) := hP6.cell 2
            have p63 : w6.cell? ⟨w.heap.size + 1 + 1, 3, none⟩ = some (sv qw) := hP6.cell 3)
         | (go_at_call 160; refine (kx' _ hr6).mono ?_; rintro e w7 ⟨v4, rfl, ow4, hb7⟩; obtain ⟨A4, n4, rfl, hn4, hr4x⟩ := own_sl ow4; clear ow4 hr4x
            have ht7 := ht6.trans (hb7.mono ht6.size)))
       go_ret
       exact ⟨rfl, ht7⟩
     · obtain rfl : R = 0 := by rw [hd3.out, if_neg hx]
       have hx' : ¬ (0 : Int) < (XS.length : Int) := by omega
       clear hd2 hd3
       go_enter Tryz.func92, Tryz.ntmps92
       go_wp2_with (first
         | (go_at_call 156; rw [← hW]; refine (kv _).mono ?_; rintro e w1 ⟨rfl, hb1⟩
            have htB1 := htBW.trans (hb1.mono htBW.size)
            have hB1 := hBW.below hb1 hBW.lt
            have hP1 := hPW.below hb1 hPW.lt
            have hL1 := hLW.below hb1 hLW.lt
            have hr1 := (hrW.below hb1).more hb1.size
            have ht1 := htW.trans (hb1.mono htW.size)
            have b10 : w1.cell? ⟨w.heap.size, 0, none⟩ = some (.int .i64 sz) := hB1.cell 0
            have b11 : w1.cell? ⟨w.heap.size, 1, none⟩ = some (sv bp) := hB1.cell 1
            have b12 : w1.cell? ⟨w.heap.size, 2, none⟩ = some (sv bc) := hB1.cell 2
            have l10 : w1.cell? ⟨w.heap.size + 1, 0, none⟩ = some (.slice A lex.length c) := hL1.cell 0
            have p10 : w1.cell? ⟨w.heap.size + 1 + 1, 0, none⟩ = some (.int .i64 qr) := hP1.cell 0
            have p11 : w1.cell? ⟨w.heap.size + 1 + 1, 1, none⟩ = some (.int .i64 qc) := hP1.cell 1
            have p12 : w1.cell? ⟨w.heap.size + 1 + 1, 2, none⟩ = some (.bool _) := hP1.cell 2
            have p13 : w1.cell? ⟨w.heap.size + 1 + 1, 3, none⟩ = some (sv qw) := hP1.cell 3)
         | (go_at_call 97; refine (kp' _).mono ?_; rintro e w2 ⟨rfl, hb2⟩
            have htB2 := htB1.trans (hb2.mono htB1.size)
            have hB2 := hB1.below hb2 hB1.lt
            have hP2 := hP1.below hb2 hP1.lt
            have hL2 := hL1.below hb2 hL1.lt
            have hr2 := (hr1.below hb2).more hb2.size
            have ht2 := ht1.trans (hb2.mono ht1.size)
            have b20 : w2.cell? ⟨w.heap.size, 0, none⟩ = some (.int .i64 sz) := hB2.cell 0
            have b21 : w2.cell? ⟨w.heap.size, 1, none⟩ = some (sv bp) := hB2.cell 1
            have b22 : w2.cell? ⟨w.heap.size, 2, none⟩ = some (sv bc) := hB2.cell 2
            have l20 : w2.cell? ⟨w.heap.size + 1, 0, none⟩ = some (.slice A lex.length c) := hL2.cell 0
            have p20 : w2.cell? ⟨w.heap.size + 1 + 1, 0, none⟩ = some (.int .i64 qr) := hP2.cell 0
            have p21 : w2.cell? ⟨w.heap.size + 1 + 1, 1, none⟩ = some (.int .i64 qc) := hP2.cell 1
            have p22 : w2.cell? ⟨w.heap.size + 1 + 1, 2, none⟩ = some (.bool _) := hP2.cell 2
            have p23 : w2.cell? ⟨w.heap.size + 1 + 1, 3, none⟩ = some (sv qw) := hP2.cell 3)
         | (go_at_call 96; refine (ko _).mono ?_; rintro e w3 ⟨rfl, hb3⟩
            have htB3 := htB2.trans (hb3.mono htB2.size)
            have hB3 := hB2.below hb3 hB2.lt
            have hP3 := hP2.below hb3 hP2.lt
            have hL3 := hL2.below hb3 hL2.lt
            have hr3 := (hr2.below hb3).more hb3.size
            have ht3 := ht2.trans (hb3.mono ht2.size)
            have b30 : w3.cell? ⟨w.heap.size, 0, none⟩ = some (.int .i64 sz) := hB3.cell 0
            have b31 : w3.cell? ⟨w.heap.size, 1, none⟩ = some (sv bp) := hB3.cell 1
            have b32 : w3.cell? ⟨w.heap.size, 2, none⟩ = some (sv bc) := hB3.cell 2
            have l30 : w3.cell? ⟨w.heap.size + 1, 0, none⟩ = some (.slice A lex.length c) := hL3.cell 0
            have p30 : w3.cell? ⟨w.heap.size + 1 + 1, 0, none⟩ = some (.int .i64 qr) := hP3.cell 0
            have p31 : w3.cell? ⟨w.heap.size + 1 + 1, 1, none⟩ = some (.int .i64 qc) := hP3.cell 1
            have p32 : w3.cell? ⟨w.heap.size + 1 + 1, 2, none⟩ = some (.bool _) := hP3.cell 2
            have p33 : w3.cell? ⟨w.heap.size + 1 + 1, 3, none⟩ = some (sv qw) := hP3.cell 3)
         | (go_at_call 157; refine (kn _).mono ?_; rintro e w4 ⟨v1, v2, rfl, ownA, ownB, hb4⟩; obtain ⟨A1, n1, rfl, hn1, -, -⟩ := own_form ownA; clear ownA ownB
            have htB4 := htB3.trans (hb4.mono htB3.size)
            have hB4 := hB3.below hb4 hB3.lt
            have hP4 := hP3.below hb4 hP3.lt
            have hL4 := hL3.below hb4 hL3.lt
            have hr4 := (hr3.below hb4).more hb4.size
            have ht4 := ht3.trans (hb4.mono ht3.size)
            have b40 : w4.cell? ⟨w.heap.size, 0, none⟩ = some (.int .i64 sz) := hB4.cell 0
            have b41 : w4.cell? ⟨w.heap.size, 1, none⟩ = some (sv bp) := hB4.cell 1
            have b42 : w4.cell? ⟨w.heap.size, 2, none⟩ = some (sv bc) := hB4.cell 2
            have l40 : w4.cell? ⟨w.heap.size + 1, 0, none⟩ = some (.slice A lex.length c) := hL4.cell 0
            have p40 : w4.cell? ⟨w.heap.size + 1 + 1, 0, none⟩ = some (.int .i64 qr) := hP4.cell 0
            have p41 : w4.cell? ⟨w.heap.size + 1 + 1, 1, none⟩ = some (.int .i64 qc) := hP4.cell 1
            have p42 : w4.cell? ⟨w.heap.size + 1 + 1, 2, none⟩ = some (.bool _) := hP4.cell 2
            have p43 : w4.cell? ⟨w.heap.size + 1 + 1, 3, none⟩ = some (sv qw) := hP4.cell 3
            have htb := htB4)
         | (go_at_call 158; refine (kt' _ (hmW.below htb)).mono ?_; rintro e w5 ⟨rfl, hb5⟩
            have htB5 := htB4.trans (hb5.mono htB4.size)
            have hB5 := hB4.below hb5 hB4.lt
            have hP5 := hP4.below hb5 hP4.lt
            have hL5 := hL4.below hb5 hL4.lt
            have hr5 := (hr4.below hb5).more hb5.size
            have ht5 := ht4.trans (hb5.mono ht4.size)
            have b50 : w5.cell? ⟨w.heap.size, 0, none⟩ = some (.int .i64 sz) := hB5.cell 0
            have b51 : w5.cell? ⟨w.heap.size, 1, none⟩ = some (sv bp) := hB5.cell 1
            have b52 : w5.cell? ⟨w.heap.size, 2, none⟩ = some (sv bc) := hB5.cell 2
            have l50 : w5.cell? ⟨w.heap.size + 1, 0, none⟩ = some (.slice A lex.length c) := hL5.cell 0
            have p50 : w5.cell? ⟨w.heap.size + 1 + 1, 0, none⟩ = some (.int .i64 qr) := hP5.cell 0
            have p51 : w5.cell? ⟨w.heap.size + 1 + 1, 1, none⟩ = some (.int .i64 qc) := hP5.cell 1
            have p52 : w5.cell? ⟨w.heap.size + 1 + 1, 2, none⟩ = some (.bool _) := hP5.cell 2
            have p53 : w5.cell? ⟨w.heap.size + 1 + 1, 3, none⟩ = some (sv qw) := hP5.cell 3)
         | (go_at_call 159; refine (kw' _).mono ?_; rintro e w6 ⟨v3, rfl, ow3, hb6⟩; obtain ⟨A3, n3, rfl, hn3, hr3x⟩ := own_sl ow3; clear ow3 hr3x
            have htB6 := htB5.trans (hb6.mono htB5.size)
            have hB6 := hB5.below hb6 hB5.lt
            have hP6 := hP5.below hb6 hP5.lt
            have hL6 := hL5.below hb6 hL5.lt
            have hr6 := (hr5.below hb6).more hb6.size
            have ht6 := ht5.trans (hb6.mono ht5.size)
            have b60 : w6.cell? ⟨w.heap.size, 0, none⟩ = some (.int .i64 sz) := hB6.cell 0
            have b61 : w6.cell? ⟨w.heap.size, 1, none⟩ = some (sv bp) := hB6.cell 1
            have b62 : w6.cell? ⟨w.heap.size, 2, none⟩ = some (sv bc) := hB6.cell 2
            have l60 : w6.cell? ⟨w.heap.size + 1, 0, none⟩ = some (.slice A lex.length c) := hL6.cell 0
            have p60 : w6.cell? ⟨w.heap.size + 1 + 1, 0, none⟩ = some (.int .i64 qr) := hP6.cell 0
            have p61 : w6.cell? ⟨w.heap.size + 1 + 1, 1, none⟩ = some (.int .i64 qc) := hP6.cell 1
            have p62 : w6.cell? ⟨w.heap.size + 1 + 1, 2, none⟩ = some (.bool _) := hP6.cell 2
            have p63 : w6.cell? ⟨w.heap.size + 1 + 1, 3, none⟩ = some (sv qw) := hP6.cell 3)
         | (go_at_call 160; refine (kx' _ hr6).mono ?_; rintro e w7 ⟨v4, rfl, ow4, hb7⟩; obtain ⟨A4, n4, rfl, hn4, hr4x⟩ := own_sl ow4; clear ow4 hr4x
            have ht7 := ht6.trans (hb7.mono ht6.size)))
       go_ret
       exact ⟨rfl, ht7⟩
 · have hn1' : ((N.length : Int) == 1) = false := by rw [beq_eq_false_iff_ne]; omega
   have hd3 : Hid (R = if 0 < XS.length then 9 else 0) := Lib.hid (by rw [hd2.out, decide_eq_false hn1]; rfl)
   by_cases hx : 0 < XS.length
   · obtain rfl : R = 9 := by rw [hd3.out, if_pos hx]
     have hx' : (0 : Int) < (XS.length : Int) := by omega
     clear hd2 hd3
     go_enter Tryz.func92, Tryz.ntmps92
     go_wp2_with (first
       | (go_at_call 156; rw [← hW]; refine (kv _).mono ?_; rintro e w1 ⟨rfl, hb1⟩
          have htB1 := htBW.trans (hb1.mono htBW.size)
          have hB1 := hBW.below hb1 hBW.lt
          have hP1 := hPW.below hb1 hPW.lt
          have hL1 := hLW.below hb1 hLW.lt
          have hr1 := (hrW.below hb1).more hb1.size
          have ht1 := htW.trans (hb1.mono htW.size)
          have b10 : w1.cell? ⟨w.heap.size, 0, none⟩ = some (.int .i64 sz) := hB1.cell 0
          have b11 : w1.cell? ⟨w.heap.size, 1, none⟩ = some (sv bp) := hB1.cell 1
          have b12 : w1.cell? ⟨w.heap.size, 2, none⟩ = some (sv bc) := hB1.cell 2
          have l10 : w1.cell? ⟨w.heap.size + 1, 0, none⟩ = some (.slice A lex.length c) := hL1.cell 0
          have p10 : w1.cell? ⟨w.heap.size + 1 + 1, 0, none⟩ = some (.int .i64 qr) := hP1.cell 0
          have p11 : w1.cell? ⟨w.heap.size + 1 + 1, 1, none⟩ = some (.int .i64 qc) := hP1.cell 1
          have p12 : w1.cell? ⟨w.heap.size + 1 + 1, 2, none⟩ = some (.bool _) := hP1.cell 2
          have p13 : w1.cell? ⟨w.heap.size + 1 + 1, 3, none⟩ = some (sv qw) := hP1.cell 3)
       | (go_at_call 97; refine (kp' _).mono ?_; rintro e w2 ⟨rfl, hb2⟩
          have htB2 := htB1.trans (hb2.mono htB1.size)
          have hB2 := hB1.below hb2 hB1.lt
          have hP2 := hP1.below hb2 hP1.lt
          have hL2 := hL1.below hb2 hL1.lt
          have hr2 := (hr1.below hb2).more hb2.size
          have ht2 := ht1.trans (hb2.mono ht1.size)
          have b20 : w2.cell? ⟨w.heap.size, 0, none⟩ = some (.int .i64 sz) := hB2.cell 0
          have b21 : w2.cell? ⟨w.heap.size, 1, none⟩ = some (sv bp) := hB2.cell 1
          have b22 : w2.cell? ⟨w.heap.size, 2, none⟩ = some (sv bc) := hB2.cell 2
          have l20 : w2.cell? ⟨w.heap.size + 1, 0, none⟩ = some (.slice A lex.length c) := hL2.cell 0
          have p20 : w2.cell? ⟨w.heap.size + 1 + 1, 0, none⟩ = some (.int .i64 qr) := hP2.cell 0
          have p21 : w2.cell? ⟨w.heap.size + 1 + 1, 1, none⟩ = some (.int .i64 qc) := hP2.cell 1
          have p22 : w2.cell? ⟨w.heap.size + 1 + 1, 2, none⟩ = some (.bool _) := hP2.cell 2
          have p23 : w2.cell? ⟨w.heap.size + 1 + 1, 3, none⟩ = some (sv qw) := hP2.cell 3)
       | (go_at_call 96; refine (ko _).mono ?_; rintro e w3 ⟨rfl, hb3⟩
          have htB3 := htB2.trans (hb3.mono htB2.size)
          have hB3 := hB2.below hb3 hB2.lt
          have hP3 := hP2.below hb3 hP2.lt
          have hL3 := hL2.below hb3 hL2.lt
          have hr3 := (hr2.below hb3).more hb3.size
          have ht3 := ht2.trans (hb3.mono ht2.size)
          have b30 : w3.cell? ⟨w.heap.size, 0, none⟩ = some (.int .i64 sz) := hB3.cell 0
          have b31 : w3.cell? ⟨w.heap.size, 1, none⟩ = some (sv bp) := hB3.cell 1
          have b32 : w3.cell? ⟨w.heap.size, 2, none⟩ = some (sv bc) := hB3.cell 2
          have l30 : w3.cell? ⟨w.heap.size + 1, 0, none⟩ = some (.slice A lex.length c) := hL3.cell 0
          have p30 : w3.cell? ⟨w.heap.size + 1 + 1, 0, none⟩ = some (.int .i64 qr) := hP3.cell 0
          have p31 : w3.cell? ⟨w.heap.size + 1 + 1, 1, none⟩ = some (.int .i64 qc) := hP3.cell 1
          have p32 : w3.cell? ⟨w.heap.size + 1 + 1, 2, none⟩ = some (.bool _) := hP3.cell 2
          have p33 : w3.cell? ⟨w.heap.size + 1 + 1, 3, none⟩ = some (sv qw) := hP3.cell 3)
       | (go_at_call 157; refine (kn _).mono ?_; rintro e w4 ⟨v1, v2, rfl, ownA, ownB, hb4⟩; obtain ⟨A1, n1, rfl, hn1, -, -⟩ := own_form ownA; clear ownA ownB
          have htB4 := htB3.trans (hb4.mono htB3.size)
          have hB4 := hB3.below hb4 hB3.lt
          have hP4 := hP3.below hb4 hP3.lt
          have hL4 := hL3.below hb4 hL3.lt
          have hr4 := (hr3.below hb4).more hb4.size
          have ht4 := ht3.trans (hb4.mono ht3.size)
          have b40 : w4.cell? ⟨w.heap.size, 0, none⟩ = some (.int .i64 sz) := hB4.cell 0
          have b41 : w4.cell? ⟨w.heap.size, 1, none⟩ = some (sv bp) := hB4.cell 1
          have b42 : w4.cell? ⟨w.heap.size, 2, none⟩ = some (sv bc) := hB4.cell 2
          have l40 : w4.cell? ⟨w.heap.size + 1, 0, none⟩ = some (.slice A lex.length c) := hL4.cell 0
          have p40 : w4.cell? ⟨w.heap.size + 1 + 1, 0, none⟩ = some (.int .i64 qr) := hP4.cell 0
          have p41 : w4.cell? ⟨w.heap.size + 1 + 1, 1, none⟩ = some (.int .i64 qc) := hP4.cell 1
          have p42 : w4.cell? ⟨w.heap.size + 1 + 1, 2, none⟩ = some (.bool _) := hP4.cell 2
          have p43 : w4.cell? ⟨w.heap.size + 1 + 1, 3, none⟩ = some (sv qw) := hP4.cell 3
          have htb := htB4)
       | (go_at_call 158; refine (kt' _ (hmW.below htb)).mono ?_; rintro e w5 ⟨rfl, hb5⟩
          have htB5 := htB4.trans (hb5.mono htB4.size)
          have hB5 := hB4.below hb5 hB4.lt
          have hP5 := hP4.below hb5 hP4.lt
          have hL5 := hL4.below hb5 hL4.lt
          have hr5 := (hr4.below hb5).more hb5.size
          have ht5 := ht4.trans (hb5.mono ht4.size)
          have b50 : w5.cell? ⟨w.heap.size, 0, none⟩ = some (.int .i64 sz) := hB5.cell 0
          have b51 : w5.cell? ⟨w.heap.size, 1, none⟩ = some (sv bp) := hB5.cell 1
          have b52 : w5.cell? ⟨w.heap.size, 2, none⟩ = some (sv bc) := hB5.cell 2
          have l50 : w5.cell? ⟨w.heap.size + 1, 0, none⟩ = some (.slice A lex.length c) := hL5.cell 0
          have p50 : w5.cell? ⟨w.heap.size + 1 + 1, 0, none⟩ = some (.int .i64 qr) := hP5.cell 0
          have p51 : w5.cell? ⟨w.heap.size + 1 + 1, 1, none⟩ = some (.int .i64 qc) := hP5.cell 1
          have p52 : w5.cell? ⟨w.heap.size + 1 + 1, 2, none⟩ = some (.bool _) := hP5.cell 2
          have p53 : w5.cell? ⟨w.heap.size + 1 + 1, 3, none⟩ = some (sv qw) := hP5.cell 3)
       | (go_at_call 160; refine (kx' _ hr5).mono ?_; rintro e w6 ⟨v4, rfl, ow4, hb6⟩; obtain ⟨A4, n4, rfl, hn4, hr4x⟩ := own_sl ow4; clear ow4 hr4x
          have ht6 := ht5.trans (hb6.mono ht5.size)))
     go_ret
     exact ⟨rfl, ht6⟩
   · obtain rfl : R = 0 := by rw [hd3.out, if_neg hx]
     have hx' : ¬ (0 : Int) < (XS.length : Int) := by omega
     clear hd2 hd3
     go_enter Tryz.func92, Tryz.ntmps92
     go_wp2_with (first
       | (go_at_call 156; rw [← hW]; refine (kv _).mono ?_; rintro e w1 ⟨rfl, hb1⟩
          have htB1 := htBW.trans (hb1.mono htBW.size)
          have hB1 := hBW.below hb1 hBW.lt
          have hP1 := hPW.below hb1 hPW.lt
          have hL1 := hLW.below hb1 hLW.lt
          have hr1 := (hrW.below hb1).more hb1.size
          have ht1 := htW.trans (hb1.mono htW.size)
          have b10 : w1.cell? ⟨w.heap.size, 0, none⟩ = some (.int .i64 sz) := hB1.cell 0
          have b11 : w1.cell? ⟨w.heap.size, 1, none⟩ = some (sv bp) := hB1.cell 1
          have b12 : w1.cell? ⟨w.heap.size, 2, none⟩ = some (sv bc) := hB1.cell 2
          have l10 : w1.cell? ⟨w.heap.size + 1, 0, none⟩ = some (.slice A lex.length c) := hL1.cell 0
          have p10 : w1.cell? ⟨w.heap.size + 1 + 1, 0, none⟩ = some (.int .i64 qr) := hP1.cell 0
          have p11 : w1.cell? ⟨w.heap.size + 1 + 1, 1, none⟩ = some (.int .i64 qc) := hP1.cell 1
          have p12 : w1.cell? ⟨w.heap.size + 1 + 1, 2, none⟩ = some (.bool _) := hP1.cell 2
          have p13 : w1.cell? ⟨w.heap.size + 1 + 1, 3, none⟩ = some (sv qw) := hP1.cell 3)
       | (go_at_call 97; refine (kp' _).mono ?_; rintro e w2 ⟨rfl, hb2⟩
          have htB2 := htB1.trans (hb2.mono htB1.size)
          have hB2 := hB1.below hb2 hB1.lt
          have hP2 := hP1.below hb2 hP1.lt
          have hL2 := hL1.below hb2 hL1.lt
          have hr2 := (hr1.below hb2).more hb2.size
          have ht2 := ht1.trans (hb2.mono ht1.size)
          have b20 : w2.cell? ⟨w.heap.size, 0, none⟩ = some (.int .i64 sz) := hB2.cell 0
          have b21 : w2.cell? ⟨w.heap.size, 1, none⟩ = some (sv bp) := hB2.cell 1
          have b22 : w2.cell? ⟨w.heap.size, 2, none⟩ = some (sv bc) := hB2.cell 2
          have l20 : w2.cell? ⟨w.heap.size + 1, 0, none⟩ = some (.slice A lex.length c) := hL2.cell 0
          have p20 : w2.cell? ⟨w.heap.size + 1 + 1, 0, none⟩ = some (.int .i64 qr) := hP2.cell 0
          have p21 : w2.cell? ⟨w.heap.size + 1 + 1, 1, none⟩ = some (.int .i64 qc) := hP2.cell 1
          have p22 : w2.cell? ⟨w.heap.size + 1 + 1, 2, none⟩ = some (.bool _) := hP2.cell 2
          have p23 : w2.cell? ⟨w.heap.size + 1 + 1, 3, none⟩ = some (sv qw) := hP2.cell 3)
       | (go_at_call 96; refine (ko _).mono ?_; rintro e w3 ⟨rfl, hb3⟩
          have htB3 := htB2.trans (hb3.mono htB2.size)
          have hB3 := hB2.below hb3 hB2.lt
          have hP3 := hP2.below hb3 hP2.lt
          have hL3 := hL2.below hb3 hL2.lt
          have hr3 := (hr2.below hb3).more hb3.size
          have ht3 := ht2.trans (hb3.mono ht2.size)
          have b30 : w3.cell? ⟨w.heap.size, 0, none⟩ = some (.int .i64 sz) := hB3.cell 0
          have b31 : w3.cell? ⟨w.heap.size, 1, none⟩ = some (sv bp) := hB3.cell 1
          have b32 : w3.cell? ⟨w.heap.size, 2, none⟩ = some (sv bc) := hB3.cell 2
          have l30 : w3.cell? ⟨w.heap.size + 1, 0, none⟩ = some (.slice A lex.length c) := hL3.cell 0
          have p30 : w3.cell? ⟨w.heap.size + 1 + 1, 0, none⟩ = some (.int .i64 qr) := hP3.cell 0
          have p31 : w3.cell? ⟨w.heap.size + 1 + 1, 1, none⟩ = some (.int .i64 qc) := hP3.cell 1
          have p32 : w3.cell? ⟨w.heap.size + 1 + 1, 2, none⟩ = some (.bool _) := hP3.cell 2
          have p33 : w3.cell? ⟨w.heap.size + 1 + 1, 3, none⟩ = some (sv qw) := hP3.cell 3)
       | (go_at_call 157; refine (kn _).mono ?_; rintro e w4 ⟨v1, v2, rfl, ownA, ownB, hb4⟩; obtain ⟨A1, n1, rfl, hn1, -, -⟩ := own_form ownA; clear ownA ownB
          have htB4 := htB3.trans (hb4.mono htB3.size)
          have hB4 := hB3.below hb4 hB3.lt
          have hP4 := hP3.below hb4 hP3.lt
          have hL4 := hL3.below hb4 hL3.lt
          have hr4 := (hr3.below hb4).more hb4.size
          have ht4 := ht3.trans (hb4.mono ht3.size)
          have b40 : w4.cell? ⟨w.heap.size, 0, none⟩ = some (.int .i64 sz) := hB4.cell 0
          have b41 : w4.cell? ⟨w.heap.size, 1, none⟩ = some (sv bp) := hB4.cell 1
          have b42 : w4.cell? ⟨w.heap.size, 2, none⟩ = some (sv bc) := hB4.cell 2
          have l40 : w4.cell? ⟨w.heap.size + 1, 0, none⟩ = some (.slice A lex.length c) := hL4.cell 0
          have p40 : w4.cell? ⟨w.heap.size + 1 + 1, 0, none⟩ = some (.int .i64 qr) := hP4.cell 0
          have p41 : w4.cell? ⟨w.heap.size + 1 + 1, 1, none⟩ = some (.int .i64 qc) := hP4.cell 1
          have p42 : w4.cell? ⟨w.heap.size + 1 + 1, 2, none⟩ = some (.bool _) := hP4.cell 2
          have p43 : w4.cell? ⟨w.heap.size + 1 + 1, 3, none⟩ = some (sv qw) := hP4.cell 3
          have htb := htB4)
       | (go_at_call 158; refine (kt' _ (hmW.below htb)).mono ?_; rintro e w5 ⟨rfl, hb5⟩
          have htB5 := htB4.trans (hb5.mono htB4.size)
          have hB5 := hB4.below hb5 hB4.lt
          have hP5 := hP4.below hb5 hP4.lt
          have hL5 := hL4.below hb5 hL4.lt
          have hr5 := (hr4.below hb5).more hb5.size
          have ht5 := ht4.trans (hb5.mono ht4.size)
          have b50 : w5.cell? ⟨w.heap.size, 0, none⟩ = some (.int .i64 sz) := hB5.cell 0
          have b51 : w5.cell? ⟨w.heap.size, 1, none⟩ = some (sv bp) := hB5.cell 1
          have b52 : w5.cell? ⟨w.heap.size, 2, none⟩ = some (sv bc) := hB5.cell 2
          have l50 : w5.cell? ⟨w.heap.size + 1, 0, none⟩ = some (.slice A lex.length c) := hL5.cell 0
          have p50 : w5.cell? ⟨w.heap.size + 1 + 1, 0, none⟩ = some (.int .i64 qr) := hP5.cell 0
          have p51 : w5.cell? ⟨w.heap.size + 1 + 1, 1, none⟩ = some (.int .i64 qc) := hP5.cell 1
          have p52 : w5.cell? ⟨w.heap.size + 1 + 1, 2, none⟩ = some (.bool _) := hP5.cell 2
          have p53 : w5.cell? ⟨w.heap.size + 1 + 1, 3, none⟩ = some (sv qw) := hP5.cell 3)
       | (go_at_call 160; refine (kx' _ hr5).mono ?_; rintro e w6 ⟨v4, rfl, ow4, hb6⟩; obtain ⟨A4, n4, rfl, hn4, hr4x⟩ := own_sl ow4; clear ow4 hr4x
          have ht6 := ht5.trans (hb6.mono ht5.size)))
     go_ret
     exact ⟨rfl, ht6⟩
end Go.Proofs.YtdkckikobefekaaGreatDoor
