/-
  Contracts: the letters on a board, blank boards (layer 11 of the impl package); Contract: how a play touches the letters on a board (layer 12 of the impl package); Contracts: placed words, main words (layers 3 and 12 of the impl package); Contract: whether a play is valid on a board (layer 12 of the impl package).
  Conditions: the library's own variable is as the program sets it; as for the words of a play; ASCII letters; a board of a size from 5 to 15; ASCII letters; numbers of common size.
-/
import Derived.Test.YtdkckikobefekaaGreatDoorM10
import Derived.Test.YtdkckikobefekaaGreatDoorM11
import Derived.Test.YtdkckikobefekaaGreatDoorM13
import Derived.Lib.Builder
import Derived.Lib.UnsafeStr
import Derived.Laws.Externs
import Derived.RegionTactic
import Derived.Laws.Rows
import Derived.Laws.Tables
import Derived.Lib.OthersKept
import Derived.Test.YtdkckikobefekaaGreatDoorM15
import Derived.Test.YtdkckikobefekaaGreatDoorM14
import Derived.Test.YtdkckikobefekaaGreatDoorM04
namespace Go.Proofs.YtdkckikobefekaaGreatDoor
open Go.RowKit RegP RegL RegV
set_option maxHeartbeats 1000000
set_option maxRecDepth 100000
theorem replace_dots : ∀ s : Str, Lib.replaceK [46] [] (Lib.count s [46]) s = s.filter fun c => !(c == 46)
 | [] => rfl
 | c :: l => by
   have ih := replace_dots l
   by_cases hc : c = 46
   · subst hc
     rw [Lib.count_cons_eq, Nat.add_comm, Lib.replaceK_hit [46] [] _ _ 0 (by rfl)]
     simpa using ih
   · have hf : (c :: l).filter (fun c => !(c == 46)) = c :: l.filter (fun c => !(c == 46)) := List.filter_cons_of_pos (by simpa using hc)
     rw [Lib.count_cons_ne c 46 l hc, hf]
     cases hk : Lib.count l [46] with
     | zero =>
       rw [hk] at ih
       show c :: l = _
       rw [← ih]; rfl
     | succ k =>
       rw [hk] at ih
       obtain ⟨i, hi⟩ := Lib.index_of_count (s := l) (old := [46]) (by omega)
       rw [Lib.replaceK_hit [46] [] k l i hi] at ih
       have hi2 : Lib.index (c :: l) [46] = ((i + 1 : Nat) : Int) := by
         rw [Lib.index]
         have hp : ([46] : Str).isPrefixOf (c :: l) = false := by
           simp [List.isPrefixOf]
           exact fun h => hc h.symm
         rw [hp, hi]
         have : ((i : Int) == -1) = false := by rw [beq_eq_false_iff_ne]; omega
         rw [this]; simp
       rw [Lib.replaceK_hit [46] [] k (c :: l) (i + 1) hi2, ← ih]
       simp
theorem replaceAll_dots (s : Str) : Lib.replaceAll s [46] [] = s.filter fun c => !(c == 46) := by
 unfold Lib.replaceAll Lib.replace
 rw [if_neg (by decide)]
 have : Lib.replaceNum s [46] (-1) = Lib.count s [46] := by unfold Lib.replaceNum; rw [if_pos (.inl (by decide))]
 rw [this, replace_dots]
def MaxOk (w : World) : Prop := ∃ m : Int, w.cell? ⟨1, 0, none⟩ = some (.int .i64 m)
theorem MaxOk.below {w w' : World} (h : MaxOk w) (hb : Below w.heap.size w w') : MaxOk w' := by
 obtain ⟨m, h⟩ := h
 exact ⟨m, by rw [hb.cell (World.block_lt_of_cell? w _ h)]; exact h⟩
theorem MaxOk.alloc {w : World} (h : MaxOk w) (o : Obj) : MaxOk (w.alloc o) := h.below ((Below.refl _ _).alloc (Nat.le_refl _) o)
theorem lettersOn_any (b : Bd) (w : World) (hm : MaxOk w) (hl : b.cells.length ≤ 2 ^ 30) :
   Calls Tryz.prog 273 #[b.v] w fun e w' => e = .returned (sv (lettersS b)) ∧ Below w.heap.size w w' := by
 have key : ∀ W, Below w.heap.size w W → Calls Tryz.prog 304 #[sv b.cells, .string ⟨#[46]⟩, .string ⟨#[]⟩] W fun e w' => e = .returned (sv (lettersS b)) ∧ Below W.heap.size W w' := fun W hW => by
   obtain ⟨m, hm⟩ := hm.below hW
   have h := Tryz.strings_ReplaceAll ⟨b.cells.toArray⟩ ⟨#[46]⟩ ⟨#[]⟩ m W (by simp [ByteArray.size]; omega) hm (by decide) (by simp [ByteArray.size]; omega)
   have e : Lib.replaceAll (ByteArray.mk b.cells.toArray).data.toList (ByteArray.mk #[46]).data.toList (ByteArray.mk #[]).data.toList = lettersS b := replaceAll_dots b.cells
   rw [e] at h
   exact h
 obtain ⟨L, hL⟩ : ∃ L, L = lettersS b := ⟨_, rfl⟩
 rw [← hL] at key ⊢
 clear hL hm
 simp only [Bd.v] at *
 have hbW := (Below.refl w.heap.size w).alloc (Nat.le_refl _) (.cells #[.int .i64 b.size, sv b.prem, sv b.cells] 41)
 go_enter Tryz.func273, Tryz.ntmps273
 go_wp2_with (go_at_call 304; refine (key _ hbW).mono ?_; rintro e w1 ⟨rfl, hb1⟩)
 go_ret
 exact ⟨rfl, hbW.trans (hb1.mono hbW.size)⟩
theorem blank_any (b : Bd) (w : World) (hm : MaxOk w) (hl : b.cells.length ≤ 2 ^ 30) :
   Calls Tryz.prog 234 #[b.v] w fun e w' => e = .returned (.bool (lettersS b).isEmpty) ∧ Below w.heap.size w w' := by
 have key := fun w hm => lettersOn_any b w hm hl
 have he := sv_beq (lettersS b) []
 have he2 : (lettersS b == []) = (lettersS b).isEmpty := by cases lettersS b <;> rfl
 rw [he2] at he
 obtain ⟨L, hL⟩ : ∃ L, L = lettersS b := ⟨_, rfl⟩
 rw [← hL] at key he ⊢
 clear hL he2
 obtain ⟨R, hR⟩ : ∃ R, R = L.isEmpty := ⟨_, rfl⟩
 rw [← hR] at he ⊢
 clear hR
 simp only [Bd.v] at *
 have hbW := (Below.refl w.heap.size w).alloc (Nat.le_refl _) (.cells #[.int .i64 b.size, sv b.prem, sv b.cells] 41)
 have hmW := hm.alloc (.cells #[.int .i64 b.size, sv b.prem, sv b.cells] 41)
 have he' : (L.toArray == #[]) = R := he
 clear he
 go_enter Tryz.func234, Tryz.ntmps234
 cases R
 all_goals
   go_wp2_with (go_at_call 273; refine (key _ hmW).mono ?_; rintro e w1 ⟨rfl, hb1⟩)
   go_ret
   exact ⟨ret_bool (by simp_all), hbW.trans (hb1.mono hbW.size)⟩
def touchI (b : Bd) (q : Pl) : Bool :=
 if (lettersS b).isEmpty then (sqL q (newL b q)).any (fun s => s == (b.size / 2, b.size / 2))
 else decide ((newL b q).length < q.word.length) || decide (1 < (wordsI b q).length)
theorem sq_any (S : List (Int × Int)) (p : Int × Int) (k : Nat) (h : k < S.length) (h0 : (S.take k).any (fun s => s == p) = false) :
   (S.take (k + 1)).any (fun s => s == p) = (S[k] == p) ∧ ((S[k] == p) = true → S.any (fun s => s == p) = true) := by
 constructor
 · rw [List.take_succ_eq_append_getElem h, List.any_append, h0]; simp
 · intro hp
   exact List.any_eq_true.2 ⟨S[k], List.getElem_mem h, hp⟩
theorem touches_any (b : Bd) (q : Pl) (w : World) (hm : MaxOk w) (hf : b.Fit) (hba : asciiB b.cells = true) (ha : asciiB q.word = true) (hon : OnQ b q) (hl : q.word.length ≤ 2 ^ 32) (h1 : -400000000000 ≤ q.row) (h2 : q.row ≤ 400000000000) (h3 : -400000000000 ≤ q.col) (h4 : q.col ≤ 400000000000) :
   Calls Tryz.prog 158 #[b.v, q.v] w fun e w' => e = .returned (.bool (touchI b q)) ∧ Below w.heap.size w w' := by
 have kn := fun w => newSquares_any b q w hf ha hl h1 h2 h3 h4
 have kw := fun w => wordsFormed_any b q w hf hba ha hon hl h1 h2 h3 h4
 have hcl : b.cells.length ≤ 2 ^ 30 := by
   have h1 := hf.cells; have h5 := hf.lo; have h15 := hf.hi
   have := (mul_bounds (r := 0) (c := 0) h5 h15 (by omega) (by omega) (by omega) (by omega)).2.2.2.2
   omega
 have kb := fun w hm => blank_any b w hm hcl
 have h5 := hf.lo
 have h15 := hf.hi
 have hNl := newTo_length b q q.word.length
 change (newL b q).length ≤ _ at hNl
 have hWl : (wordsI b q).length ≤ 2 ^ 33 := by
   have := crossP_length b q (newL b q)
   simp [wordsI, crossW]; omega
 have hSl : (sqL q (newL b q)).length = (newL b q).length := by simp [sqL]
 have hdef : Hid (touchI b q = if (lettersS b).isEmpty then (sqL q (newL b q)).any (fun s => s == (b.size / 2, b.size / 2)) else decide ((newL b q).length < q.word.length) || decide (1 < (wordsI b q).length)) := Lib.hid rfl
 have hany := Lib.hid (sq_any (sqL q (newL b q)) (b.size / 2, b.size / 2))
 obtain ⟨LE, hLE⟩ : ∃ LE, LE = (lettersS b).isEmpty := ⟨_, rfl⟩
 obtain ⟨WI, hWI⟩ : ∃ WI, WI = wordsI b q := ⟨_, rfl⟩
 obtain ⟨SQ, hSQ⟩ : ∃ SQ, SQ = sqL q (newL b q) := ⟨_, rfl⟩
 obtain ⟨N, hN⟩ : ∃ N, N = newL b q := ⟨_, rfl⟩
 obtain ⟨R, hR⟩ : ∃ R, R = touchI b q := ⟨_, rfl⟩
 rw [← hLE] at kb hdef
 rw [← hWI] at kw hdef hWl
 rw [← hSQ] at kn hdef hSl hany
 rw [← hN] at kn hdef hSl hNl
 rw [← hR] at hdef ⊢
 clear hLE hWI hSQ hN hR hf hba ha hon h1 h2 h3 h4 hcl
 have hSl' := Lib.hid hSl
 clear hSl
 obtain ⟨sz, bp, bc⟩ := b
 obtain ⟨qr, qc, qd, qw⟩ := q
 simp only [Bd.v, Pl.v] at *
 have hB1 := Blk.new1 w (.cells #[.int .i64 sz, sv bp, sv bc] 41) 61 #[.int .i64 qr, .int .i64 qc, .bool qd, sv qw]
 have hB0 := (Blk.new w 41 #[.int .i64 sz, sv bp, sv bc]).alloc (.cells #[.int .i64 qr, .int .i64 qc, .bool qd, sv qw] 61)
 have hbW := ((Below.refl w.heap.size w).alloc (Nat.le_refl _) (.cells #[.int .i64 sz, sv bp, sv bc] 41)).alloc (by simp) (.cells #[.int .i64 qr, .int .i64 qc, .bool qd, sv qw] 61)
 have hmW := (hm.alloc (.cells #[.int .i64 sz, sv bp, sv bc] 41)).alloc (.cells #[.int .i64 qr, .int .i64 qc, .bool qd, sv qw] 61)
 have hd2 : sz.tdiv 2 = sz / 2 := Int.tdiv_eq_ediv_of_nonneg (by omega)
 clear hm
 cases LE
 · have hR : Hid (R = (decide (N.length < qw.length) || decide (1 < WI.length))) := Lib.hid (by rw [hdef.out]; rfl)
   clear hany hdef
   by_cases hlt : N.length < qw.length
   · have hR2 : R = true := by rw [hR.out, decide_eq_true hlt]; rfl
     subst hR2
     have hlt' : (N.length : Int) < (qw.length : Int) := by omega
     clear hR
     go_enter Tryz.func158, Tryz.ntmps158
     go_wp2_with (first
       | (go_at_call 157; refine (kn _).mono ?_; rintro e w1 ⟨v1, v2, rfl, ownA, ownB, hb1⟩; obtain ⟨A1, n1, rfl, hn1, hr1, hf1⟩ := own_form ownA; clear ownA ownB
          have hD0 := hB0.below hb1 hB0.lt
          have hD1 := hB1.below hb1 hB1.lt
          have c0 : w1.cell? ⟨w.heap.size, 0, none⟩ = some (.int .i64 sz) := hD0.cell 0
          have c1 : w1.cell? ⟨w.heap.size, 1, none⟩ = some (sv bp) := hD0.cell 1
          have c2 : w1.cell? ⟨w.heap.size, 2, none⟩ = some (sv bc) := hD0.cell 2
          have hm1 := hmW.below hb1)
       | (go_at_call 234; refine (kb _ hm1).mono ?_; rintro e w2 ⟨rfl, hb2⟩
          have hE1 := hD1.below hb2 hD1.lt
          have d3 : w2.cell? ⟨w.heap.size + 1, 3, none⟩ = some (sv qw) := hE1.cell 3))
     go_ret
     exact ⟨rfl, (hbW.trans (hb1.mono hbW.size)).trans (hb2.mono (hbW.trans (hb1.mono hbW.size)).size)⟩
   · obtain ⟨T, hT⟩ : ∃ T, T = decide (1 < WI.length) := ⟨_, rfl⟩
     have hR2 : R = T := by rw [hR.out, decide_eq_false hlt, hT]; rfl
     subst hR2
     have hlt' : ¬ (N.length : Int) < (qw.length : Int) := by omega
     have hgt : decide ((1 : Int) < (WI.length : Int)) = R := by rw [hT, decide_eq_decide]; omega
     clear hR
     go_enter Tryz.func158, Tryz.ntmps158
     go_wp2_with (first
       | (go_at_call 157; refine (kn _).mono ?_; rintro e w1 ⟨v1, v2, rfl, ownA, ownB, hb1⟩; obtain ⟨A1, n1, rfl, hn1, hr1, hf1⟩ := own_form ownA; clear ownA ownB
          have hD0 := hB0.below hb1 hB0.lt
          have hD1 := hB1.below hb1 hB1.lt
          have c0 : w1.cell? ⟨w.heap.size, 0, none⟩ = some (.int .i64 sz) := hD0.cell 0
          have c1 : w1.cell? ⟨w.heap.size, 1, none⟩ = some (sv bp) := hD0.cell 1
          have c2 : w1.cell? ⟨w.heap.size, 2, none⟩ = some (sv bc) := hD0.cell 2
          have hm1 := hmW.below hb1)
       | (go_at_call 234; refine (kb _ hm1).mono ?_; rintro e w2 ⟨rfl, hb2⟩
          have hE0 := hD0.below hb2 hD0.lt
          have hE1 := hD1.below hb2 hD1.lt
          have e0 : w2.cell? ⟨w.heap.size, 0, none⟩ = some (.int .i64 sz) := hE0.cell 0
          have e1 : w2.cell? ⟨w.heap.size, 1, none⟩ = some (sv bp) := hE0.cell 1
          have e2 : w2.cell? ⟨w.heap.size, 2, none⟩ = some (sv bc) := hE0.cell 2
          have d0 : w2.cell? ⟨w.heap.size + 1, 0, none⟩ = some (.int .i64 qr) := hE1.cell 0
          have d1 : w2.cell? ⟨w.heap.size + 1, 1, none⟩ = some (.int .i64 qc) := hE1.cell 1
          have d2 : w2.cell? ⟨w.heap.size + 1, 2, none⟩ = some (.bool qd) := hE1.cell 2
          have d3 : w2.cell? ⟨w.heap.size + 1, 3, none⟩ = some (sv qw) := hE1.cell 3)
       | (go_at_call 159; refine (kw _).mono ?_; rintro e w3 ⟨v3, rfl, ow3, hb3⟩; obtain ⟨A3, n3, rfl, hn3, hr3⟩ := own_sl ow3; clear ow3))
     have hb12 := (hbW.trans (hb1.mono hbW.size)).trans (hb2.mono (hbW.trans (hb1.mono hbW.size)).size)
     go_ret
     exact ⟨ret_bool (by rw [← hgt, decide_eq_decide]; omega), hb12.trans (hb3.mono hb12.size)⟩
 · have hR : Hid (R = SQ.any (fun s => s == (sz / 2, sz / 2))) := Lib.hid (by rw [hdef.out]; rfl)
   have hNz : N.length ≤ 2 ^ 32 := by omega
   clear hdef kw hNl hWl
   have hd2' : 0 ≤ sz / 2 ∧ sz / 2 ≤ 7 := by omega
   obtain ⟨mid, hmid⟩ : ∃ mid, mid = sz / 2 := ⟨_, rfl⟩
   rw [← hmid] at hd2 hR hany hd2'
   clear hmid
   go_enter Tryz.func158, Tryz.ntmps158
   go_wp2_with (first
     | (go_at_call 157; refine (kn _).mono ?_; rintro e w1 ⟨v1, v2, rfl, ownA, ownB, hb1⟩; obtain ⟨A1, n1, rfl, hn1, hr1, hf1⟩ := own_form ownA; clear ownA ownB
        have hD0 := hB0.below hb1 hB0.lt
        have hD1 := hB1.below hb1 hB1.lt
        have c0 : w1.cell? ⟨w.heap.size, 0, none⟩ = some (.int .i64 sz) := hD0.cell 0
        have c1 : w1.cell? ⟨w.heap.size, 1, none⟩ = some (sv bp) := hD0.cell 1
        have c2 : w1.cell? ⟨w.heap.size, 2, none⟩ = some (sv bc) := hD0.cell 2
        have hm1 := hmW.below hb1)
     | (go_at_call 234; refine (kb _ hm1).mono ?_; rintro e w2 ⟨rfl, hb2⟩
        have hE0 := hD0.below hb2 hD0.lt
        have hE1 := hD1.below hb2 hD1.lt
        have e0 : w2.cell? ⟨w.heap.size, 0, none⟩ = some (.int .i64 sz) := hE0.cell 0))
   have hb12 := (hbW.trans (hb1.mono hbW.size)).trans (hb2.mono (hbW.trans (hb1.mono hbW.size)).size)
   obtain ⟨W, hW⟩ : ∃ W, W = w2.alloc (.cells #[.int .i64 mid, .int .i64 mid] 229) := ⟨_, rfl⟩
   have hb3 : Below w2.heap.size w2 W := by rw [hW]; exact (Below.refl _ _).alloc (Nat.le_refl _) _
   have hC : Blk W w2.heap.size 229 #[.int .i64 mid, .int .i64 mid] := by rw [hW]; exact Blk.new _ _ _
   have hr3 := (hr1.below hb2).below' hb3 hb2.size
   rw [← hW]
   clear hW
   have hbW3 := hb12.trans (hb3.mono hb12.size)
   have hz3 := Nat.le_trans hb2.size hb3.size
   have hz12 := hb2.size
   clear hb1 hb2 hb3 hD0 hD1 hE0 hE1 c0 c1 c2 e0 hm1 hmW hB0 hB1 hbW hr1 hb12
   go_loopw [41] (fun i wr => ∃ k : Nat, k ≤ N.length ∧ i = .int .i64 k ∧ (SQ.take k).any (fun s => s == (mid, mid)) = false ∧ Below W.heap.size W wr) (fun i _ => N.length - (intOf i).toNat)
   case atStart => exact ⟨0, by omega, rfl, rfl, Below.refl _ _⟩
   case round =>
     obtain ⟨k, hk, rfl, hno, hbr⟩ := hrel
     by_cases hkl : k < N.length
     · have hkS : k < SQ.length := by rw [hSl'.out]; exact hkl
       have hrr : Reads wr w1.heap.size 2 A1 SQ.length (sqC SQ) := by rw [hSl'.out]; exact hr3.below' hbr hz3
       obtain ⟨ad, rfl, hadb, _⟩ := hrr.2 (by omega)
       obtain ⟨g, rfl⟩ := hf1 ad rfl
       obtain ⟨e0, e1⟩ := hrr.sq (k := k) hkS
       simp only [Nat.zero_add] at e0 e1
       obtain ⟨n1', n2'⟩ := hany.out k hkS hno
       obtain ⟨sr, hsr⟩ : ∃ sr, sr = SQ[k].1 := ⟨_, rfl⟩
       obtain ⟨sc, hsc⟩ : ∃ sc, sc = SQ[k].2 := ⟨_, rfl⟩
       have hsk : SQ[k] = (sr, sc) := by rw [hsr, hsc]
       rw [hsk] at n1' n2'
       rw [← hsr] at e0
       rw [← hsc] at e1
       have hkk : (k : Int) < (N.length : Int) := by omega
       have hgz : g < wr.heap.size := by simp at hadb; have := hbr.size; omega
       have hCr := hC.below hbr hC.lt
       have hCz := hCr.lt
       have m0 : wr.cell? ⟨w2.heap.size, 0, none⟩ = some (.int .i64 mid) := hCr.cell 0
       have m1 : wr.cell? ⟨w2.heap.size, 1, none⟩ = some (.int .i64 mid) := hCr.cell 1
       have n1 := Lib.hid n1'
       have n2 := Lib.hid n2'
       clear n1' n2' hsk hsr hsc hrr
       by_cases heq : (sr, sc) = (mid, mid)
       · have hR2 : R = true := by rw [hR.out]; exact n2.out (by simp [heq])
         injection heq with h1 h2
         subst h1 h2 hR2
         clear hR n1 n2
         go_wp2_with (fail)
         go_ret
         exact ⟨rfl, hbW3.trans ((hbr.mono hbW3.size).alloc (by have := hbW3.size; have := hbr.size; omega) _)⟩
       · have hb5 : (((sr, sc) : Int × Int) == (mid, mid)) = false := by simpa using heq
         have hno2 : Hid ((SQ.take (k + 1)).any (fun s => s == (mid, mid)) = false) := Lib.hid (by rw [n1.out, hb5])
         have hne : sr = mid → ¬ sc = mid := fun e1 e2 => heq (by rw [e1, e2])
         clear n1 n2 hno hb5 heq hR
         by_cases h1 : sr = mid
         · have h2 := hne h1
           subst h1
           clear hne
           go_wp2_with (fail)
           go_roundw
           case rel => exact ⟨k + 1, by omega, by go_num, hno2.out, hbr.alloc hbr.size _⟩
           case measure => simp [intOf]; omega
         · clear hne
           go_wp2_with (fail)
           go_roundw
           case rel => exact ⟨k + 1, by omega, by go_num, hno2.out, hbr.alloc hbr.size _⟩
           case measure => simp [intOf]; omega
     · obtain rfl : k = N.length := by omega
       have hR2 : Hid (R = false) := Lib.hid (by rw [hR.out, ← hno, ← hSl'.out, List.take_length])
       have hkk : ¬ (N.length : Int) < (N.length : Int) := by omega
       go_wp2_with (fail)
       go_ret
       exact ⟨ret_bool hR2.out.symm, hbW3.trans (hbr.mono hbW3.size)⟩
theorem small_low (c : UInt8) : smallB (lowC c) = (smallB c || capB c) := by
 unfold lowC
 cases hc : capB c
 · simp
 · unfold capB at hc
   simp only [Bool.and_eq_true, decide_eq_true_eq] at hc
   simp only [if_true, Bool.or_true]
   unfold smallB
   have h1 : (c + 32).toNat = c.toNat + 32 := by
     rw [UInt8.toNat_add]
     have : (32 : UInt8).toNat = 32 := rfl
     omega
   simp only [Bool.and_eq_true, decide_eq_true_eq]
   omega
theorem word_low (s : Str) : isWordB (lowS s) = placedB s := by
 unfold isWordB placedB lowS
 rw [List.length_map, List.all_map]
 have : (s.all (smallB ∘ lowC)) = s.all (fun c => smallB c || capB c) := by
   congr 1; funext c; exact small_low c
 rw [this]
theorem isPlaced_any (s : Str) (w : World) (hs : s.length ≤ 2 ^ 33) (ha : asciiB s = true) :
   Calls Tryz.prog 292 #[sv s] w fun e w' => e = .returned (.bool (placedB s)) ∧ Below w.heap.size w w' := by
 have k1 : ∀ w, Calls Tryz.prog 294 #[sv s] w fun e w' => e = .returned (sv (lowS s)) ∧ Below w.heap.size w w' := fun w => by
   have h := Tryz.strings_ToLower_ascii ⟨s.toArray⟩ w (by simp [ByteArray.size]; omega) (fun j b hb => by
     have := List.all_eq_true.1 ha b (List.mem_of_getElem? hb)
     simpa using this)
   have hl : (ByteArray.mk s.toArray).data.toList = s := by simp
   rw [hl, toLowerA_low] at h
   exact h
 have hll : (lowS s).length = s.length := by simp [lowS]
 have k2 := fun w => iIsWord_any (lowS s) w (by omega)
 rw [word_low] at k2
 obtain ⟨L, hL⟩ : ∃ L, L = lowS s := ⟨_, rfl⟩
 rw [← hL] at k1 k2 hll
 obtain ⟨R, hR⟩ : ∃ R, R = placedB s := ⟨_, rfl⟩
 rw [← hR] at k2 ⊢
 clear hL hR ha
 have hll' : (L.length : Int) = (s.length : Int) := by omega
 go_enter Tryz.func292, Tryz.ntmps292
 cases R
 · go_wp2_with (first
     | (go_at_call 294; refine (k1 _).mono ?_; rintro e w1 ⟨rfl, hb1⟩)
     | (go_at_call 313; refine (k2 _).mono ?_; rintro e w2 ⟨rfl, hb2⟩))
   go_ret
   exact ⟨rfl, hb1.trans (hb2.mono hb1.size)⟩
 · go_wp2_with (first
     | (go_at_call 313; refine (k2 _).mono ?_; rintro e w2 ⟨rfl, hb2⟩; have hb12 := hb1.trans (hb2.mono hb1.size))
     | (go_at_call 294; refine (k1 _).mono ?_; first | (rintro e w3 ⟨rfl, hb3⟩; have hb13 := hb12.trans (hb3.mono hb12.size)) | rintro e w1 ⟨rfl, hb1⟩))
   go_ret
   exact ⟨ret_bool (by simp), hb13⟩
theorem isMain_any (s : Str) (w : World) (hs : s.length ≤ 2 ^ 33) (ha : asciiB s = true) :
   Calls Tryz.prog 230 #[sv s] w fun e w' => e = .returned (.bool (wordB s)) ∧ Below w.heap.size w w' := by
 have k1 := fun w => isPlaced_any s w hs ha
 have hdef : Hid (wordB s = (decide (1 < s.length) && placedB s)) := Lib.hid rfl
 obtain ⟨W, hW⟩ : ∃ W, W = wordB s := ⟨_, rfl⟩
 obtain ⟨R, hR⟩ : ∃ R, R = placedB s := ⟨_, rfl⟩
 rw [← hW] at hdef ⊢
 rw [← hR] at k1 hdef
 clear hW hR ha
 by_cases h : 1 < s.length
 · have hW : W = R := by rw [hdef.out, decide_eq_true h]; rfl
   subst hW
   have h' : (2 : Int) ≤ (s.length : Int) := by omega
   clear hdef
   go_enter Tryz.func230, Tryz.ntmps230
   go_wp2_with (go_at_call 292; refine (k1 _).mono ?_; rintro e w1 ⟨rfl, hb1⟩)
   go_ret
   exact ⟨rfl, hb1⟩
 · have hW : W = false := by rw [hdef.out, decide_eq_false h]; rfl
   subst hW
   have h' : ¬ (2 : Int) ≤ (s.length : Int) := by omega
   clear hdef
   go_enter Tryz.func230, Tryz.ntmps230
   go_wp2_with (fail)
   go_ret
   exact ⟨rfl, Below.refl _ _⟩
set_option maxHeartbeats 2000000
def cellQ (b : Bd) (q : Pl) (i : Nat) : UInt8 := b.cell (q.sr i) (q.sc i)
def fitQ (b : Bd) (q : Pl) (i : Nat) : Bool := cellQ b q i == 46 || cellQ b q i == q.word.getD i 0
def fitTo (b : Bd) (q : Pl) (k : Nat) : Bool := (List.range k).all (fitQ b q)
def freeTo (b : Bd) (q : Pl) (k : Nat) : Bool := (List.range k).any fun i => cellQ b q i == 46
def validI (b : Bd) (q : Pl) : Bool :=
 wordB q.word && b.inB q.row q.col && b.inB (q.sr ((q.word.length : Int) - 1)) (q.sc ((q.word.length : Int) - 1)) &&
 !b.let_ (q.sr (-1)) (q.sc (-1)) && !b.let_ (q.sr q.word.length) (q.sc q.word.length) && fitTo b q q.word.length && freeTo b q q.word.length
theorem fitTo_succ (b : Bd) (q : Pl) (k : Nat) : fitTo b q (k + 1) = (fitTo b q k && fitQ b q k) := by simp [fitTo, List.range_succ]
theorem freeTo_succ (b : Bd) (q : Pl) (k : Nat) : freeTo b q (k + 1) = (freeTo b q k || (cellQ b q k == 46)) := by simp [freeTo, List.range_succ]
theorem fitTo_no (b : Bd) (q : Pl) {k n : Nat} (h : k < n) (hk : fitQ b q k = false) : fitTo b q n = false := by
 unfold fitTo
 rw [List.all_eq_false]
 exact ⟨k, List.mem_range.2 h, by simp [hk]⟩
theorem validOn_any (b : Bd) (q : Pl) (w : World) (hf : b.Fit) (hs : sizeB b.size = true) (ha : asciiB q.word = true) (hl : q.word.length ≤ 2 ^ 32) (h1 : -400000000000 ≤ q.row) (h2 : q.row ≤ 400000000000) (h3 : -400000000000 ≤ q.col) (h4 : q.col ≤ 400000000000) :
   Calls Tryz.prog 156 #[q.v, b.v] w fun e w' => e = .returned (.bool (validI b q)) ∧ Below w.heap.size w w' := by
 have km := fun w => isMain_any q.word w (by omega) ha
 have ki := fun (r c : Int) w => inside_any b r c w hs
 have ko := fun (r c : Int) w => on_any b r c w hf
 have kc := fun (r c : Int) w => cell_any b r c w hf
 have ks := fun (n : Int) (w : World) (h5 : -500000000000 ≤ n) (h6 : n ≤ 500000000000) => square_any q n w (by omega) (by omega) (by omega) (by omega) h5 h6
 have hdef : Hid (validI b q = (wordB q.word && b.inB q.row q.col && b.inB (q.sr ((q.word.length : Int) - 1)) (q.sc ((q.word.length : Int) - 1)) &&
   !b.let_ (q.sr (-1)) (q.sc (-1)) && !b.let_ (q.sr q.word.length) (q.sc q.word.length) && fitTo b q q.word.length && freeTo b q q.word.length)) := Lib.hid rfl
 have hfs := Lib.hid (fitTo_succ b q)
 have hrs := Lib.hid (freeTo_succ b q)
 have hfn := Lib.hid (fun k (h : k < q.word.length) (hk : fitQ b q k = false) => fitTo_no b q h hk)
 have hfq : Hid (∀ k, fitQ b q k = (cellQ b q k == 46 || cellQ b q k == q.word.getD k 0)) := Lib.hid (fun k => rfl)
 have hcq : Hid (∀ k : Nat, cellQ b q k = b.cell (q.sr k) (q.sc k)) := Lib.hid (fun k => rfl)
 have hf0 : Hid (fitTo b q 0 = true) := Lib.hid rfl
 have hr0 : Hid (freeTo b q 0 = false) := Lib.hid rfl
 obtain ⟨R, hR⟩ : ∃ R, R = validI b q := ⟨_, rfl⟩
 obtain ⟨FT, hFT⟩ : ∃ FT, FT = fitTo b q := ⟨_, rfl⟩
 obtain ⟨RT, hRT⟩ : ∃ RT, RT = freeTo b q := ⟨_, rfl⟩
 obtain ⟨FQ, hFQ⟩ : ∃ FQ, FQ = fitQ b q := ⟨_, rfl⟩
 obtain ⟨CQ, hCQ⟩ : ∃ CQ, CQ = cellQ b q := ⟨_, rfl⟩
 obtain ⟨MW, hMW⟩ : ∃ MW, MW = wordB q.word := ⟨_, rfl⟩
 obtain ⟨I0, hI0⟩ : ∃ I0, I0 = b.inB q.row q.col := ⟨_, rfl⟩
 obtain ⟨lr, hlr⟩ : ∃ lr, lr = q.sr ((q.word.length : Int) - 1) := ⟨_, rfl⟩
 obtain ⟨lc, hlc⟩ : ∃ lc, lc = q.sc ((q.word.length : Int) - 1) := ⟨_, rfl⟩
 obtain ⟨br, hbr⟩ : ∃ br, br = q.sr (-1) := ⟨_, rfl⟩
 obtain ⟨bc', hbc'⟩ : ∃ bc', bc' = q.sc (-1) := ⟨_, rfl⟩
 obtain ⟨ar, har⟩ : ∃ ar, ar = q.sr (q.word.length : Int) := ⟨_, rfl⟩
 obtain ⟨ac, hac⟩ : ∃ ac, ac = q.sc (q.word.length : Int) := ⟨_, rfl⟩
 obtain ⟨I1, hI1⟩ : ∃ I1, I1 = b.inB lr lc := ⟨_, rfl⟩
 obtain ⟨O1, hO1⟩ : ∃ O1, O1 = b.let_ br bc' := ⟨_, rfl⟩
 obtain ⟨O2, hO2⟩ : ∃ O2, O2 = b.let_ ar ac := ⟨_, rfl⟩
 have hwl : MW = true → 2 ≤ q.word.length := fun h => by
   rw [hMW] at h
   unfold wordB at h
   simp only [Bool.and_eq_true, decide_eq_true_eq] at h
   omega
 have ki0 := fun w => ki q.row q.col w
 have ki1 := fun w => ki lr lc w
 have ko1 := fun w => ko br bc' w
 have ko2 := fun w => ko ar ac w
 have ks1 := fun w => ks ((q.word.length : Int) - 1) w (by omega) (by omega)
 have ks2 := fun w => ks (-1) w (by omega) (by omega)
 have ks3 := fun w => ks (q.word.length : Int) w (by omega) (by omega)
 have ksk := Lib.hid (fun (k : Nat) (h : k < q.word.length) w => ks (k : Int) w (by omega) (by omega))
 rw [← hlr, ← hlc] at hdef ks1
 rw [← hbr, ← hbc'] at hdef ks2
 rw [← har, ← hac] at hdef ks3
 rw [← hI0] at hdef ki0
 rw [← hI1] at hdef ki1
 rw [← hO1] at hdef ko1
 rw [← hO2] at hdef ko2
 rw [← hMW] at hdef km
 rw [← hR] at hdef ⊢
 rw [← hFT] at hdef hfs hfn hf0
 rw [← hRT] at hdef hrs hr0
 rw [← hFQ] at hfs hfn hfq
 rw [← hCQ] at hrs hfq hcq
 have kc' := Lib.hid kc
 clear hR hFT hRT hFQ hCQ hMW hI0 hlr hlc hbr hbc' har hac hI1 hO1 hO2 ki ko kc ks hf hs ha h1 h2 h3 h4
 obtain ⟨sz, bp, bc⟩ := b
 obtain ⟨qr, qc, qd, qw⟩ := q
 simp only [Bd.v, Pl.v, sqV] at *
 have hP := (Blk.new w 61 #[.int .i64 qr, .int .i64 qc, .bool qd, sv qw]).alloc (.cells #[.int .i64 sz, sv bp, sv bc] 41)
 have hB := Blk.new1 w (.cells #[.int .i64 qr, .int .i64 qc, .bool qd, sv qw] 61) 41 #[.int .i64 sz, sv bp, sv bc]
 have hbW := ((Below.refl w.heap.size w).alloc (Nat.le_refl _) (.cells #[.int .i64 qr, .int .i64 qc, .bool qd, sv qw] 61)).alloc (by simp) (.cells #[.int .i64 sz, sv bp, sv bc] 41)
 obtain ⟨W, hW⟩ : ∃ W, W = (w.alloc (.cells #[.int .i64 qr, .int .i64 qc, .bool qd, sv qw] 61)).alloc (.cells #[.int .i64 sz, sv bp, sv bc] 41) := ⟨_, rfl⟩
 rw [← hW] at hP hB hbW
 cases MW
 · have hR : R = false := by rw [hdef.out]; rfl
   subst hR
   clear hdef
   go_enter Tryz.func156, Tryz.ntmps156
   go_wp2_with (go_at_call 230; rw [← hW]; refine (km _).mono ?_; rintro e w1 ⟨rfl, hb1⟩)
   go_ret
   exact ⟨rfl, hbW.trans (hb1.mono hbW.size)⟩
 have hw2 := hwl rfl
 clear hwl
 cases I0
 · have hR : R = false := by rw [hdef.out]; rfl
   subst hR
   clear hdef
   go_enter Tryz.func156, Tryz.ntmps156
   go_wp2_with (first
     | (go_at_call 230; rw [← hW]; refine (km _).mono ?_; rintro e w1 ⟨rfl, hb1⟩
        have hP1 := hP.below hb1 hP.lt
        have hB1 := hB.below hb1 hB.lt
        have c0 : w1.cell? ⟨w.heap.size, 0, none⟩ = some (.int .i64 qr) := hP1.cell 0
        have c1 : w1.cell? ⟨w.heap.size, 1, none⟩ = some (.int .i64 qc) := hP1.cell 1
        have d0 : w1.cell? ⟨w.heap.size + 1, 0, none⟩ = some (.int .i64 sz) := hB1.cell 0
        have d1 : w1.cell? ⟨w.heap.size + 1, 1, none⟩ = some (sv bp) := hB1.cell 1
        have d2 : w1.cell? ⟨w.heap.size + 1, 2, none⟩ = some (sv bc) := hB1.cell 2)
     | (go_at_call 231; refine (ki0 _).mono ?_; rintro e w2 ⟨rfl, hb2⟩))
   go_ret
   have h12 := hbW.trans (hb1.mono hbW.size)
   exact ⟨rfl, h12.trans (hb2.mono h12.size)⟩
 have hR : Hid (R = (I1 && !O1 && !O2 && FT qw.length && RT qw.length)) := Lib.hid (by rw [hdef.out]; rfl)
 clear hdef
 have hq1 : ((qw.length : Int) - 1) ≤ 2 ^ 32 := by omega
 go_enter Tryz.func156, Tryz.ntmps156
 go_wp2_with (first
   | (go_at_call 230; rw [← hW]; refine (km _).mono ?_; rintro e w1 ⟨rfl, hb1⟩
      have hP1 := hP.below hb1 hP.lt
      have hB1 := hB.below hb1 hB.lt
      have c0 : w1.cell? ⟨w.heap.size, 0, none⟩ = some (.int .i64 qr) := hP1.cell 0
      have c1 : w1.cell? ⟨w.heap.size, 1, none⟩ = some (.int .i64 qc) := hP1.cell 1
      have d0 : w1.cell? ⟨w.heap.size + 1, 0, none⟩ = some (.int .i64 sz) := hB1.cell 0
      have d1 : w1.cell? ⟨w.heap.size + 1, 1, none⟩ = some (sv bp) := hB1.cell 1
      have d2 : w1.cell? ⟨w.heap.size + 1, 2, none⟩ = some (sv bc) := hB1.cell 2)
   | (go_at_call 231; refine (ki0 _).mono ?_; rintro e w2 ⟨rfl, hb2⟩
      have hP2 := hP1.below hb2 hP1.lt
      have hB2 := hB1.below hb2 hB1.lt
      have e0 : w2.cell? ⟨w.heap.size, 0, none⟩ = some (.int .i64 qr) := hP2.cell 0
      have e1 : w2.cell? ⟨w.heap.size, 1, none⟩ = some (.int .i64 qc) := hP2.cell 1
      have e2 : w2.cell? ⟨w.heap.size, 2, none⟩ = some (.bool qd) := hP2.cell 2
      have e3 : w2.cell? ⟨w.heap.size, 3, none⟩ = some (sv qw) := hP2.cell 3)
   | (go_at_call 169; refine (ks1 _).mono ?_; rintro e w3 ⟨rfl, hb3⟩))
 have h12 := hbW.trans (hb1.mono hbW.size)
 have h13 := (h12.trans (hb2.mono h12.size))
 have h14 := h13.trans (hb3.mono h13.size)
 have hP3 := hP2.below hb3 hP2.lt
 have hB3 := hB2.below hb3 hB2.lt
 obtain ⟨W3, hW3⟩ : ∃ W3, W3 = w3.alloc (.cells #[.int .i64 lr, .int .i64 lc] 229) := ⟨_, rfl⟩
 have hL3 : Blk W3 w3.heap.size 229 #[.int .i64 lr, .int .i64 lc] := by rw [hW3]; exact Blk.new _ _ _
 have hP3 : Blk W3 w.heap.size 61 #[.int .i64 qr, .int .i64 qc, .bool qd, sv qw] := by rw [hW3]; exact hP3.alloc _
 have hB3 : Blk W3 (w.heap.size + 1) 41 #[.int .i64 sz, sv bp, sv bc] := by rw [hW3]; exact hB3.alloc _
 have h15 : Below w.heap.size w W3 := by rw [hW3]; exact h14.alloc h14.size _
 rw [← hW3]
 clear hW3 h12 h13 h14 hb1 hb2 hb3 hP1 hP2 hB1 hB2 c0 c1 d0 d1 d2 e0 e1 e2 e3 hP hB hbW
 cases I1
 · have hR : R = false := by rw [hR.out]; rfl
   subst hR
   refine wp_region_b 22 (by kernel_rfl) (by kernel_rfl) ?_
   simp only [qqT, List.take_zero, qqD, List.drop_zero]
   iterate 8
     apply pc_step rfl
     · intro w4 hb4 K hK
       have hL4 := hL3.below hb4 hL3.lt
       have hP4 := hP3.below hb4 hP3.lt
       have hB4 := hB3.below hb4 hB3.lt
       have f0 : w4.cell? ⟨w3.heap.size, 0, none⟩ = some (.int .i64 lr) := hL4.cell 0
       have f1 : w4.cell? ⟨w3.heap.size, 1, none⟩ = some (.int .i64 lc) := hL4.cell 1
       have e0 : w4.cell? ⟨w.heap.size, 0, none⟩ = some (.int .i64 qr) := hP4.cell 0
       have e1 : w4.cell? ⟨w.heap.size, 1, none⟩ = some (.int .i64 qc) := hP4.cell 1
       have e2 : w4.cell? ⟨w.heap.size, 2, none⟩ = some (.bool qd) := hP4.cell 2
       have e3 : w4.cell? ⟨w.heap.size, 3, none⟩ = some (sv qw) := hP4.cell 3
       have d0 : w4.cell? ⟨w.heap.size + 1, 0, none⟩ = some (.int .i64 sz) := hB4.cell 0
       have d1 : w4.cell? ⟨w.heap.size + 1, 1, none⟩ = some (sv bp) := hB4.cell 1
       have d2 : w4.cell? ⟨w.heap.size + 1, 2, none⟩ = some (sv bc) := hB4.cell 2
       go_wp2_with (first | (go_at_call 231; (with_reducible refine (ki1 _).mono ?_); rintro e w5 ⟨rfl, hb5⟩) | (go_at_call 169; (with_reducible refine (ks2 _).mono ?_); rintro e w5 ⟨rfl, hb5⟩) | (go_at_call 169; (with_reducible refine (ks3 _).mono ?_); rintro e w5 ⟨rfl, hb5⟩) | (go_at_call 232; (with_reducible refine (ko1 _).mono ?_); rintro e w5 ⟨rfl, hb5⟩) | (go_at_call 232; (with_reducible refine (ko2 _).mono ?_); rintro e w5 ⟨rfl, hb5⟩))
       all_goals first | exact hb4 | exact hb4.trans (hb5.mono hb4.size) | exact hb4.trans (hd5.below.mono hb4.size)
     simp only [Act.put, qqS, qqC, qqZ]
   iterate 4
     apply pc_skip rfl
     simp only [Act.put, qqS, qqC, qqZ]
   iterate 2
     apply pc_step rfl
     · intro w4 hb4 K hK
       have hL4 := hL3.below hb4 hL3.lt
       have hP4 := hP3.below hb4 hP3.lt
       have hB4 := hB3.below hb4 hB3.lt
       have f0 : w4.cell? ⟨w3.heap.size, 0, none⟩ = some (.int .i64 lr) := hL4.cell 0
       have f1 : w4.cell? ⟨w3.heap.size, 1, none⟩ = some (.int .i64 lc) := hL4.cell 1
       have e0 : w4.cell? ⟨w.heap.size, 0, none⟩ = some (.int .i64 qr) := hP4.cell 0
       have e1 : w4.cell? ⟨w.heap.size, 1, none⟩ = some (.int .i64 qc) := hP4.cell 1
       have e2 : w4.cell? ⟨w.heap.size, 2, none⟩ = some (.bool qd) := hP4.cell 2
       have e3 : w4.cell? ⟨w.heap.size, 3, none⟩ = some (sv qw) := hP4.cell 3
       have d0 : w4.cell? ⟨w.heap.size + 1, 0, none⟩ = some (.int .i64 sz) := hB4.cell 0
       have d1 : w4.cell? ⟨w.heap.size + 1, 1, none⟩ = some (sv bp) := hB4.cell 1
       have d2 : w4.cell? ⟨w.heap.size + 1, 2, none⟩ = some (sv bc) := hB4.cell 2
       go_wp2_with (first | (go_at_call 231; (with_reducible refine (ki1 _).mono ?_); rintro e w5 ⟨rfl, hb5⟩) | (go_at_call 169; (with_reducible refine (ks2 _).mono ?_); rintro e w5 ⟨rfl, hb5⟩) | (go_at_call 169; (with_reducible refine (ks3 _).mono ?_); rintro e w5 ⟨rfl, hb5⟩) | (go_at_call 232; (with_reducible refine (ko1 _).mono ?_); rintro e w5 ⟨rfl, hb5⟩) | (go_at_call 232; (with_reducible refine (ko2 _).mono ?_); rintro e w5 ⟨rfl, hb5⟩))
       all_goals first | exact hb4 | exact hb4.trans (hb5.mono hb4.size) | exact hb4.trans (hd5.below.mono hb4.size)
     simp only [Act.put, qqS, qqC, qqZ]
   iterate 7
     apply pc_skip rfl
     simp only [Act.put, qqS, qqC, qqZ]
   iterate 1
     apply pc_step rfl
     · intro w4 hb4 K hK
       have hL4 := hL3.below hb4 hL3.lt
       have hP4 := hP3.below hb4 hP3.lt
       have hB4 := hB3.below hb4 hB3.lt
       have f0 : w4.cell? ⟨w3.heap.size, 0, none⟩ = some (.int .i64 lr) := hL4.cell 0
       have f1 : w4.cell? ⟨w3.heap.size, 1, none⟩ = some (.int .i64 lc) := hL4.cell 1
       have e0 : w4.cell? ⟨w.heap.size, 0, none⟩ = some (.int .i64 qr) := hP4.cell 0
       have e1 : w4.cell? ⟨w.heap.size, 1, none⟩ = some (.int .i64 qc) := hP4.cell 1
       have e2 : w4.cell? ⟨w.heap.size, 2, none⟩ = some (.bool qd) := hP4.cell 2
       have e3 : w4.cell? ⟨w.heap.size, 3, none⟩ = some (sv qw) := hP4.cell 3
       have d0 : w4.cell? ⟨w.heap.size + 1, 0, none⟩ = some (.int .i64 sz) := hB4.cell 0
       have d1 : w4.cell? ⟨w.heap.size + 1, 1, none⟩ = some (sv bp) := hB4.cell 1
       have d2 : w4.cell? ⟨w.heap.size + 1, 2, none⟩ = some (sv bc) := hB4.cell 2
       go_wp2_with (first | (go_at_call 231; (with_reducible refine (ki1 _).mono ?_); rintro e w5 ⟨rfl, hb5⟩) | (go_at_call 169; (with_reducible refine (ks2 _).mono ?_); rintro e w5 ⟨rfl, hb5⟩) | (go_at_call 169; (with_reducible refine (ks3 _).mono ?_); rintro e w5 ⟨rfl, hb5⟩) | (go_at_call 232; (with_reducible refine (ko1 _).mono ?_); rintro e w5 ⟨rfl, hb5⟩) | (go_at_call 232; (with_reducible refine (ko2 _).mono ?_); rintro e w5 ⟨rfl, hb5⟩))
       all_goals first | exact hb4 | exact hb4.trans (hb5.mono hb4.size) | exact hb4.trans (hd5.below.mono hb4.size)
     simp only [Act.put, qqS, qqC, qqZ]
   refine pc_nil ?_
   intro w4 hb4
   go_wp2_with (fail)
   go_ret
   exact ⟨rfl, h15.trans (hb4.mono h15.size)⟩
 cases O1
 case true =>
   have hR : R = false := by rw [hR.out]; rfl
   subst hR
   refine wp_region_b 22 (by kernel_rfl) (by kernel_rfl) ?_
   simp only [qqT, List.take_zero, qqD, List.drop_zero]
   iterate 14
     apply pc_step rfl
     · intro w4 hb4 K hK
       have hL4 := hL3.below hb4 hL3.lt
       have hP4 := hP3.below hb4 hP3.lt
       have hB4 := hB3.below hb4 hB3.lt
       have f0 : w4.cell? ⟨w3.heap.size, 0, none⟩ = some (.int .i64 lr) := hL4.cell 0
       have f1 : w4.cell? ⟨w3.heap.size, 1, none⟩ = some (.int .i64 lc) := hL4.cell 1
       have e0 : w4.cell? ⟨w.heap.size, 0, none⟩ = some (.int .i64 qr) := hP4.cell 0
       have e1 : w4.cell? ⟨w.heap.size, 1, none⟩ = some (.int .i64 qc) := hP4.cell 1
       have e2 : w4.cell? ⟨w.heap.size, 2, none⟩ = some (.bool qd) := hP4.cell 2
       have e3 : w4.cell? ⟨w.heap.size, 3, none⟩ = some (sv qw) := hP4.cell 3
       have d0 : w4.cell? ⟨w.heap.size + 1, 0, none⟩ = some (.int .i64 sz) := hB4.cell 0
       have d1 : w4.cell? ⟨w.heap.size + 1, 1, none⟩ = some (sv bp) := hB4.cell 1
       have d2 : w4.cell? ⟨w.heap.size + 1, 2, none⟩ = some (sv bc) := hB4.cell 2
       go_wp2_with (first | (go_at_call 231; (with_reducible refine (ki1 _).mono ?_); rintro e w5 ⟨rfl, hb5⟩) | (go_at_call 169; (with_reducible refine (ks2 _).mono ?_); rintro e w5 ⟨rfl, hb5⟩) | (go_at_call 169; (with_reducible refine (ks3 _).mono ?_); rintro e w5 ⟨rfl, hb5⟩) | (go_at_call 232; (with_reducible refine (ko1 _).mono ?_); rintro e w5 ⟨rfl, hb5⟩) | (go_at_call 232; (with_reducible refine (ko2 _).mono ?_); rintro e w5 ⟨rfl, hb5⟩))
       all_goals first | exact hb4 | exact hb4.trans (hb5.mono hb4.size) | exact hb4.trans (hd5.below.mono hb4.size)
     simp only [Act.put, qqS, qqC, qqZ]
   iterate 7
     apply pc_skip rfl
     simp only [Act.put, qqS, qqC, qqZ]
   iterate 1
     apply pc_step rfl
     · intro w4 hb4 K hK
       have hL4 := hL3.below hb4 hL3.lt
       have hP4 := hP3.below hb4 hP3.lt
       have hB4 := hB3.below hb4 hB3.lt
       have f0 : w4.cell? ⟨w3.heap.size, 0, none⟩ = some (.int .i64 lr) := hL4.cell 0
       have f1 : w4.cell? ⟨w3.heap.size, 1, none⟩ = some (.int .i64 lc) := hL4.cell 1
       have e0 : w4.cell? ⟨w.heap.size, 0, none⟩ = some (.int .i64 qr) := hP4.cell 0
       have e1 : w4.cell? ⟨w.heap.size, 1, none⟩ = some (.int .i64 qc) := hP4.cell 1
       have e2 : w4.cell? ⟨w.heap.size, 2, none⟩ = some (.bool qd) := hP4.cell 2
       have e3 : w4.cell? ⟨w.heap.size, 3, none⟩ = some (sv qw) := hP4.cell 3
       have d0 : w4.cell? ⟨w.heap.size + 1, 0, none⟩ = some (.int .i64 sz) := hB4.cell 0
       have d1 : w4.cell? ⟨w.heap.size + 1, 1, none⟩ = some (sv bp) := hB4.cell 1
       have d2 : w4.cell? ⟨w.heap.size + 1, 2, none⟩ = some (sv bc) := hB4.cell 2
       go_wp2_with (first | (go_at_call 231; (with_reducible refine (ki1 _).mono ?_); rintro e w5 ⟨rfl, hb5⟩) | (go_at_call 169; (with_reducible refine (ks2 _).mono ?_); rintro e w5 ⟨rfl, hb5⟩) | (go_at_call 169; (with_reducible refine (ks3 _).mono ?_); rintro e w5 ⟨rfl, hb5⟩) | (go_at_call 232; (with_reducible refine (ko1 _).mono ?_); rintro e w5 ⟨rfl, hb5⟩) | (go_at_call 232; (with_reducible refine (ko2 _).mono ?_); rintro e w5 ⟨rfl, hb5⟩))
       all_goals first | exact hb4 | exact hb4.trans (hb5.mono hb4.size) | exact hb4.trans (hd5.below.mono hb4.size)
     simp only [Act.put, qqS, qqC, qqZ]
   refine pc_nil ?_
   intro w4 hb4
   go_wp2_with (fail)
   go_ret
   exact ⟨rfl, h15.trans (hb4.mono h15.size)⟩
 case false =>
   have hR : Hid (R = (!O2 && FT qw.length && RT qw.length)) := Lib.hid (by rw [hR.out]; rfl)
   refine wp_region_b 22 (by kernel_rfl) (by kernel_rfl) ?_
   simp only [qqT, List.take_zero, qqD, List.drop_zero]
   iterate 22
     apply pc_step rfl
     · intro w4 hb4 K hK
       have hL4 := hL3.below hb4 hL3.lt
       have hP4 := hP3.below hb4 hP3.lt
       have hB4 := hB3.below hb4 hB3.lt
       have f0 : w4.cell? ⟨w3.heap.size, 0, none⟩ = some (.int .i64 lr) := hL4.cell 0
       have f1 : w4.cell? ⟨w3.heap.size, 1, none⟩ = some (.int .i64 lc) := hL4.cell 1
       have e0 : w4.cell? ⟨w.heap.size, 0, none⟩ = some (.int .i64 qr) := hP4.cell 0
       have e1 : w4.cell? ⟨w.heap.size, 1, none⟩ = some (.int .i64 qc) := hP4.cell 1
       have e2 : w4.cell? ⟨w.heap.size, 2, none⟩ = some (.bool qd) := hP4.cell 2
       have e3 : w4.cell? ⟨w.heap.size, 3, none⟩ = some (sv qw) := hP4.cell 3
       have d0 : w4.cell? ⟨w.heap.size + 1, 0, none⟩ = some (.int .i64 sz) := hB4.cell 0
       have d1 : w4.cell? ⟨w.heap.size + 1, 1, none⟩ = some (sv bp) := hB4.cell 1
       have d2 : w4.cell? ⟨w.heap.size + 1, 2, none⟩ = some (sv bc) := hB4.cell 2
       go_wp2_with (first | (go_at_call 231; (with_reducible refine (ki1 _).mono ?_); rintro e w5 ⟨rfl, hb5⟩) | (go_at_call 169; (with_reducible refine (ks2 _).mono ?_); rintro e w5 ⟨rfl, hb5⟩) | (go_at_call 169; (with_reducible refine (ks3 _).mono ?_); rintro e w5 ⟨rfl, hb5⟩) | (go_at_call 232; (with_reducible refine (ko1 _).mono ?_); rintro e w5 ⟨rfl, hb5⟩) | (go_at_call 232; (with_reducible refine (ko2 _).mono ?_); rintro e w5 ⟨rfl, hb5⟩))
       all_goals first | exact hb4 | exact hb4.trans (hb5.mono hb4.size) | exact hb4.trans (hd5.below.mono hb4.size)
     simp only [Act.put, qqS, qqC, qqZ]
   refine pc_nil ?_
   intro w4 hb4
   have h16 := h15.trans (hb4.mono h15.size)
   have hP4 := hP3.below hb4 hP3.lt
   have hB4 := hB3.below hb4 hB3.lt
   clear hb4 hP3 hB3 hL3 h15
   cases O2
   · have hR : Hid (R = (FT qw.length && RT qw.length)) := Lib.hid (by rw [hR.out]; rfl)
     go_wp2_with (fail)
     go_loopw [6, 7] (fun fr i wr => ∃ k : Nat, k ≤ qw.length ∧ i = .int .i64 k ∧ fr = .bool (RT k) ∧ FT k = true ∧ Below w4.heap.size w4 wr) (fun _ i _ => qw.length - (intOf i).toNat)
     case atStart => exact ⟨0, by omega, rfl, by rw [hr0.out], hf0.out, Below.refl _ _⟩
     case round =>
       obtain ⟨k, hk, rfl, rfl, hft, hbr⟩ := hrel
       have hP5 := hP4.below hbr hP4.lt
       have hB5 := hB4.below hbr hB4.lt
       have hpz := hP5.lt
       have hbz := hB5.lt
       have e0 : wr.cell? ⟨w.heap.size, 0, none⟩ = some (.int .i64 qr) := hP5.cell 0
       have e1 : wr.cell? ⟨w.heap.size, 1, none⟩ = some (.int .i64 qc) := hP5.cell 1
       have e2 : wr.cell? ⟨w.heap.size, 2, none⟩ = some (.bool qd) := hP5.cell 2
       have e3 : wr.cell? ⟨w.heap.size, 3, none⟩ = some (sv qw) := hP5.cell 3
       have hbb := h16.trans (hbr.mono h16.size)
       by_cases hkl : k < qw.length
       · have ksq := ksk.out k hkl
         have hkk : (k : Int) < (qw.length : Int) := by omega
         have hcc := kc'.out (Pl.sr ⟨qr, qc, qd, qw⟩ k) (Pl.sc ⟨qr, qc, qd, qw⟩ k)
         rw [← hcq.out k] at hcc
         have hfqk := Lib.hid (hfq.out k)
         have hfs1 := Lib.hid (hfs.out k)
         have hrs1 := Lib.hid (hrs.out k)
         have hfn1 := Lib.hid (hfn.out k hkl)
         obtain ⟨sr, hsr⟩ : ∃ sr, sr = Pl.sr ⟨qr, qc, qd, qw⟩ k := ⟨_, rfl⟩
         obtain ⟨sc, hsc⟩ : ∃ sc, sc = Pl.sc ⟨qr, qc, qd, qw⟩ k := ⟨_, rfl⟩
         obtain ⟨ch, hch⟩ : ∃ ch, ch = CQ k := ⟨_, rfl⟩
         rw [← hsr] at ksq hcc
         rw [← hsc] at ksq hcc
         rw [← hch] at hcc hfqk hrs1
         have hget : qw.getD k 0 = qw[k] := by rw [List.getD_eq_getElem?_getD, List.getElem?_eq_getElem hkl]; rfl
         rw [hget] at hfqk
         obtain ⟨x, hx⟩ : ∃ x, x = qw[k] := ⟨_, rfl⟩
         have hx' := Lib.hid hx
         rw [← hx] at hfqk
         clear hsr hsc hch hget hx
         by_cases hc46 : ch = 46
         · subst hc46
           have hfs2 : Hid (FT (k + 1) = true) := Lib.hid (by rw [hfs1.out, hft, hfqk.out]; rfl)
           have hrs2 : Hid (RT (k + 1) = true) := Lib.hid (by rw [hrs1.out]; simp)
           clear hft
           go_wp2_with (first
             | (go_at_call 169; refine (ksq _).mono ?_; rintro e w5 ⟨rfl, hb5⟩
                have hB6 := hB5.below hb5 hB5.lt
                have d0 : w5.cell? ⟨w.heap.size + 1, 0, none⟩ = some (.int .i64 sz) := hB6.cell 0
                have d1 : w5.cell? ⟨w.heap.size + 1, 1, none⟩ = some (sv bp) := hB6.cell 1
                have d2 : w5.cell? ⟨w.heap.size + 1, 2, none⟩ = some (sv bc) := hB6.cell 2
                have hbz2 := hB6.lt
                have hne : w.heap.size + 1 ≠ w5.heap.size := by omega
                have hb6 := (hbr.trans (hb5.mono hbr.size)).alloc (hbr.trans (hb5.mono hbr.size)).size (.cells #[.int .i64 sr, .int .i64 sc] 229))
             | (go_at_call 233; refine (hcc _).mono ?_; rintro e w6 ⟨rfl, hb7⟩
                have hb8 := hb6.trans (hb7.mono hb6.size)))
           go_roundw
           case rel => exact ⟨k + 1, by omega, by go_num, by rw [hrs2.out], hfs2.out, hb8⟩
           case measure => simp [intOf]; omega
         · have hn46 : ((ch.toNat : Int) == 46) = false := by rw [beq_eq_false_iff_ne]; intro h; exact hc46 (UInt8.toNat_inj.1 (by have : (46 : UInt8).toNat = 46 := rfl; omega))
           have hrs2 : Hid (RT (k + 1) = RT k) := Lib.hid (by rw [hrs1.out, beq_false_of_ne hc46, Bool.or_false])
           by_cases hcx : ch = x
           · subst hcx
             have hfs2 : Hid (FT (k + 1) = true) := Lib.hid (by rw [hfs1.out, hft, hfqk.out]; simp)
             clear hft
             go_wp2_with (first
               | (go_at_call 169; refine (ksq _).mono ?_; rintro e w5 ⟨rfl, hb5⟩
                  have hB6 := hB5.below hb5 hB5.lt
                  have hP6 := hP5.below hb5 hP5.lt
                  have d0 : w5.cell? ⟨w.heap.size + 1, 0, none⟩ = some (.int .i64 sz) := hB6.cell 0
                  have d1 : w5.cell? ⟨w.heap.size + 1, 1, none⟩ = some (sv bp) := hB6.cell 1
                  have d2 : w5.cell? ⟨w.heap.size + 1, 2, none⟩ = some (sv bc) := hB6.cell 2
                  have hbz2 := hB6.lt
                  have hne : w.heap.size + 1 ≠ w5.heap.size := by omega
                  have hb6 := (hbr.trans (hb5.mono hbr.size)).alloc (hbr.trans (hb5.mono hbr.size)).size (.cells #[.int .i64 sr, .int .i64 sc] 229))
               | (go_at_call 233; refine (hcc _).mono ?_; rintro e w6 ⟨rfl, hb7⟩
                  have hb8 := hb6.trans (hb7.mono hb6.size)
                  have hP8 := (hP6.alloc (.cells #[.int .i64 sr, .int .i64 sc] 229)).below hb7 (by simp; have := hP6.lt; omega)
                  have e3 : w6.cell? ⟨w.heap.size, 3, none⟩ = some (sv qw) := hP8.cell 3))
             any_goals (exfalso; rename_i hA; rw [← hx'.out, bne_self_eq_false] at hA; contradiction)
             go_roundw
             case rel => exact ⟨k + 1, by omega, by go_num, by rw [hrs2.out], hfs2.out, hb8⟩
             case measure => simp [intOf]; omega
           · have hno : FQ k = false := by rw [hfqk.out, beq_false_of_ne hc46, beq_false_of_ne hcx]; rfl
             have hR2 : R = false := by rw [hR.out, hfn1.out hno]; rfl
             have hv : ((ch.toNat : Int) != ((qw[k]).toNat : Int)) = true := by rw [← hx'.out, bne_iff_ne]; intro h; exact hcx (UInt8.toNat_inj.1 (by omega))
             subst hR2
             clear hR hno hft hrs2
             go_wp2_with (first
               | (go_at_call 169; refine (ksq _).mono ?_; rintro e w5 ⟨rfl, hb5⟩
                  have hB6 := hB5.below hb5 hB5.lt
                  have hP6 := hP5.below hb5 hP5.lt
                  have d0 : w5.cell? ⟨w.heap.size + 1, 0, none⟩ = some (.int .i64 sz) := hB6.cell 0
                  have d1 : w5.cell? ⟨w.heap.size + 1, 1, none⟩ = some (sv bp) := hB6.cell 1
                  have d2 : w5.cell? ⟨w.heap.size + 1, 2, none⟩ = some (sv bc) := hB6.cell 2
                  have hbz2 := hB6.lt
                  have hne : w.heap.size + 1 ≠ w5.heap.size := by omega
                  have hb6 := (hbr.trans (hb5.mono hbr.size)).alloc (hbr.trans (hb5.mono hbr.size)).size (.cells #[.int .i64 sr, .int .i64 sc] 229))
               | (go_at_call 233; refine (hcc _).mono ?_; rintro e w6 ⟨rfl, hb7⟩
                  have hb8 := hb6.trans (hb7.mono hb6.size)
                  have hP8 := (hP6.alloc (.cells #[.int .i64 sr, .int .i64 sc] 229)).below hb7 (by simp; have := hP6.lt; omega)
                  have e3 : w6.cell? ⟨w.heap.size, 3, none⟩ = some (sv qw) := hP8.cell 3))
             go_ret
             exact ⟨rfl, h16.trans (hb8.mono h16.size)⟩
       · obtain rfl : k = qw.length := by omega
         have hkk : ¬ (qw.length : Int) < (qw.length : Int) := by omega
         have hR2 : Hid (R = RT qw.length) := Lib.hid (by rw [hR.out, hft]; rfl)
         go_wp2_with (fail)
         go_ret
         exact ⟨ret_bool hR2.out.symm, hbb⟩
   · have hR : R = false := by rw [hR.out]; rfl
     subst hR
     go_wp2_with (fail)
     go_ret
     exact ⟨rfl, h16⟩
end Go.Proofs.YtdkckikobefekaaGreatDoor
